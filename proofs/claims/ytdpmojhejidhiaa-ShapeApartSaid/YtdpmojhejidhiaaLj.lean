/- A function's own arrays as rows. -/
import Derived.Test.YtdpmojhejidhiaaLh
namespace Go.Proofs.Ytdpmojhejidhiaa.K
open Go.RowKit Go.Lib
set_option linter.unusedVariables false
set_option linter.unusedSimpArgs false
section
variable {P : Program} {o : Oper} {st : St}
def zeroD (P : Program) (t : TypeId) : Option (List D) := match zeroA P t with
  | some ys => toDs ys
  | none => none
/-- A variable that is an array, as a row. -/
theorem OaA {t n sz id : Nat} {xs : List D} (ho : o.op = .alloc t) (hz : zeroD P t = some xs := by kernel_rfl) (hl : Nat.beq xs.length (n * sz) = true := by kernel_rfl) (hm : Nat.ble n 1000000 = true := by rfl) (hid : st.H.getD id .unborn = .unborn := by kernel_rfl) :
    OpRun P o st [.blk id] (.loc id 0) [(id, .arr t sz n xs)] := by
  unfold zeroD at hz
  cases hzz : zeroA P t with
  | none => rw [hzz] at hz; cases hz
  | some ys =>
    rw [hzz] at hz
    refine .value fun st' hag cx m S a w hs => ?_
    have hid' : st'.H.getD id .unborn = .unborn := (blk1 (by simp) hag).trans hid
    obtain ⟨i, z, hi, hz2, h1, rfl⟩ := zeroA_spec hzz
    have hr := toDs_reps hz (litAs_rep (m := m) (S := S) (w := w) z.cells.toList)
    have hxl : z.cells.toList.length = n * sz := by rw [hr.1]; exact Nat.eq_of_beq_eq_true hl
    have hn : n ≤ maxLen := by have := Nat.le_of_ble_eq_true hm; unfold maxLen; omega
    have := hs.hold.alloc hid' (.arr (.slice (some ⟨w.heap.size, 0, none⟩) n n)) rfl (.cells z.cells t) (.arr t sz n xs) fun hK hLe =>
      ⟨_, by simp [updM], ⟨z.cells.toList, ⟨hxl, .inr ⟨w.heap.size, n, z.cells, rfl, Nat.zero_le _, RowAt.of (heap_alloc_new w _), Nat.le_refl _, hn, by simpa using hxl, by rw [List.take_of_length_le (by omega)]⟩⟩, hr.mono (fun _ h => h) hK, h1⟩, fun g hg hS => by
        simp only [Value.ownBlock, Option.some.injEq] at hg; subst hg; have := (hs.hold.s _ hS).2; omega⟩
    refine ⟨_, _, _, S, ?_, this.1, fun _ h => h, this.2.1, this.2.2, by simp only [Rep, updM, if_true]; exact ⟨_, rfl, rfl⟩⟩
    simp [execOp, ho, Instr.alloc, zeroValue, typeInfo, hi, hz2, newVar, newRow]
/-- An element's address in it. -/
theorem OiR {t n sz id : Nat} {x ix : Operand} {iv : Int} (ho : o.op = .indexAddr t x ix) (h1 : iv = ((Int.toNat iv : Nat) : Int)) (h2 : Int.toNat iv < n) (hn : arrElem P t = some (n, sz) := by kernel_rfl) (hx : opA st x = .loc id 0 := by kernel_rfl) (hc : (cellsAt st.H (opA st x)).isSome = true := by kernel_rfl) (hix : intOf (opA st ix) = some iv := by kernel_rfl) :
    OpRun P o st (locsOf [x, ix] ++ locA (opA st x)) (.loc id (Int.toNat iv * sz)) [] := by
  obtain ⟨k, hk⟩ := intOf_spec hix
  refine (op_iaddr_arr ho rfl hc hn hk h1 h2).cast ?_
  rw [hx]
  simp only [addA, Nat.zero_add]
/-- Its end, as a slice. -/
theorem Osa {t n n' sz id e a : Nat} {x y : Operand} {iv : Int} {xs : List D} (ho : o.op = .slice t x (some y) none none) (hnn : n' = n) (h0 : iv = ((a : Nat) : Int)) (ha : a < n) (hn : arrElem P t = some (n, sz) := by kernel_rfl) (hx : opA st x = .loc id 0 := by kernel_rfl) (hb : st.H.getD id .unborn = .arr e sz n' xs := by kernel_rfl) (hy : intOf (opA st y) = some iv := by kernel_rfl) :
    OpRun P o st (locsOf [x, y] ++ [.blk id]) (.sub id (a * sz) (n' - a)) [] := by
  subst hnn
  obtain ⟨k, hk⟩ := intOf_spec hy
  refine .pure fun st' hag cx m S act w hs => ?_
  have hb' : st'.H.getD id .unborn = .arr e sz n' xs := (blk1 (by simp) hag).trans hb
  have hr := op_rep hx (R := locsOf [x, y] ++ [.blk id]) (fun l h => by simp [locsOf, h]) hag hs
  have e2 := op_lit hk (R := locsOf [x, y] ++ [.blk id]) (fun l h => by simp [locsOf, h]) hag hs
  have hok := hs.hold.ok id
  rw [hb'] at hok
  obtain ⟨v, h5, ⟨cells, ⟨_, hrow⟩, _⟩, _⟩ := hok
  simp only [Rep, h5] at hr
  obtain ⟨g, hg, hp⟩ := hr
  have hnm : n' ≤ maxLen := by
    rcases hrow with ⟨rfl, _⟩ | ⟨g', cap, cur, rfl, _, _, h6, h7, _⟩
    · simp [Value.ownBlock] at hg
    · omega
  obtain ⟨e', inf, hu, hinf, hsz⟩ := arrElem_spec hn
  subst h0
  have h3 : (0 : Int) ≤ a ∧ (a : Int) ≤ n' := by omega
  refine ⟨.slice (some ⟨g, a * sz, none⟩) (n' - a) (n' - a), ?_, ?_⟩
  · simp [execOp, ho, Instr.sliceAt, run_underlying hu, hp, e2, Instr.sureAddr, Instr.sliceBounds, Instr.sliceBound, asIntOf, sizeOf, typeInfo, hinf, hsz, addr_add, Nat.le_of_lt ha, show ¬ n' = a by omega]
  · simp only [Rep, h5]
    exact ⟨g, _, hg, rfl, Nat.le_refl _, by omega⟩
/-- All of it, as a slice. -/
theorem Osa0 {t n n' sz id e : Nat} {x : Operand} {xs : List D} (ho : o.op = .slice t x none none none) (hnn : n' = n) (hn : arrElem P t = some (n, sz) := by kernel_rfl) (hx : opA st x = .loc id 0 := by kernel_rfl) (hb : st.H.getD id .unborn = .arr e sz n' xs := by kernel_rfl) :
    OpRun P o st (locOf x ++ [.blk id]) (.sub id (0 * sz) (n' - 0)) [] := by
  subst hnn
  refine .pure fun st' hag cx m S act w hs => ?_
  have hb' : st'.H.getD id .unborn = .arr e sz n' xs := (blk1 (by simp) hag).trans hb
  have hr := op_rep hx (R := locOf x ++ [.blk id]) (fun l h => by simp [h]) hag hs
  have hok := hs.hold.ok id
  rw [hb'] at hok
  obtain ⟨v, h5, ⟨cells, ⟨_, hrow⟩, _⟩, _⟩ := hok
  simp only [Rep, h5] at hr
  obtain ⟨g, hg, hp⟩ := hr
  have hnm : n' ≤ maxLen := by
    rcases hrow with ⟨rfl, _⟩ | ⟨g', cap, cur, rfl, _, _, h6, h7, _⟩
    · simp [Value.ownBlock] at hg
    · omega
  obtain ⟨e', inf, hu, hinf, hsz⟩ := arrElem_spec hn
  refine ⟨.slice (some ⟨g, 0, none⟩) n' n', ?_, ?_⟩
  · simp [execOp, ho, Instr.sliceAt, run_underlying hu, hp, Instr.sureAddr, Instr.sliceBounds, sizeOf, typeInfo, hinf, hsz, Addr.add]
  · simp only [Rep, h5]
    exact ⟨g, _, hg, by simp, Nat.le_refl _, by omega⟩
end
theorem flatU8_drop {l : List UInt8} {a : Nat} : ((flatD encU8 l).drop (a * 1)).take (l.length - a) = bytesD (l.drop a) := by
  rw [flatU8, Nat.mul_one]
  unfold bytesD
  rw [← List.map_drop, List.take_of_length_le (by simp)]
theorem toNat_eq {n : Int} (h : 0 ≤ n) : n = ((Int.toNat n : Nat) : Int) := by omega
theorem toNat_lt' {n : Int} {k : Nat} (h0 : 0 ≤ n) (h : n < (k : Int)) : Int.toNat n < k := by omega
theorem u8m {x : UInt8} {b : Int} (h : 0 < b) : Int.tmod ((x.toNat : Nat) : Int) b = (((toU8 (Int.tmod ((x.toNat : Nat) : Int) b)).toNat : Nat) : Int) := by
  have hx : x.toNat < 256 := x.toNat_lt
  obtain ⟨k, rfl⟩ : ∃ k : Nat, b = (k : Int) := ⟨b.toNat, by omega⟩
  have e : Int.tmod ((x.toNat : Nat) : Int) (k : Int) = ((x.toNat % k : Nat) : Int) := (Int.ofNat_tmod _ _).symm
  have := Nat.mod_le x.toNat k
  rw [e]
  unfold toU8
  rw [UInt8.toNat_ofNat']
  omega
end Go.Proofs.Ytdpmojhejidhiaa.K
