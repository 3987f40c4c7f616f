/- More for lift.py: jumps to a label, doubles by their bits, bits turned, a row's end cleared. -/
import Derived.Test.YtdpmojhejidhiaaLe
import Derived.ScopeJumps
namespace Go.Proofs.Ytdpmojhejidhiaa.K
open Go.RowKit Go.Lib
set_option linter.unusedVariables false
set_option linter.unusedSimpArgs false
section
variable {P : Program} {K : Exit → St → Prop} {b c : Code} {st : St}
theorem AWP.goto {l : Nat} (h : K (.goto l) st) : AWP P K (.goto l) st := fun cx m S a w hs => wp_goto ⟨st, m, S, h, hs⟩
theorem AWP.label {l : Nat} (h : K .normal st) : AWP P K (.label l) st := fun cx m S a w hs => wp_label ⟨st, m, S, h, hs⟩
theorem Then.goto {l : Nat} (h : K (.goto l) st) : Then P K b (.goto l) st := h
theorem InBlock.goto {l id : Nat} (h : K (.goto l) st) : InBlock id K (.goto l) st := h
theorem RoundK.goto {n l : Nat} (h : K (.goto l) st) : RoundK P K c n (.goto l) st := h
/-- Up to the label. -/
def LabK {α : Type} (S : α → St) (I : α → Prop) (K : Exit → St → Prop) : Exit → St → Prop
  | .normal, st => ∃ x, I x ∧ Weak st (S x)
  | .goto _, _ => False
  | e, st => K e st
/-- From the label on. -/
def JmpK {α : Type} (l : Nat) (S : α → St) (I : α → Prop) (μ : α → Nat) (n : Nat) (K : Exit → St → Prop) : Exit → St → Prop
  | .goto l', st => l' = l ∧ ∃ y, I y ∧ μ y < n ∧ Weak st (S y)
  | e, st => K e st
section
variable {α : Type} {S : α → St} {I : α → Prop} {μ : α → Nat} {l n : Nat}
theorem LabK.ret (h : K .ret st) : LabK S I K .ret st := h
theorem LabK.exit {id : Nat} (h : K (.exit id) st) : LabK S I K (.exit id) st := h
theorem JmpK.ret (h : K .ret st) : JmpK l S I μ n K .ret st := h
theorem JmpK.exit {id : Nat} (h : K (.exit id) st) : JmpK l S I μ n K (.exit id) st := h
theorem JmpK.normal (h : K .normal st) : JmpK l S I μ n K .normal st := h
end
theorem least_nat {p : Nat → Prop} (h : ∃ n, p n) : ∃ n, p n ∧ ∀ m, p m → n ≤ m := by
  obtain ⟨n, hn⟩ := h
  induction n using Nat.strongRecOn with
  | ind n ih =>
    by_cases h : ∃ m, m < n ∧ p m
    · obtain ⟨m, h1, h2⟩ := h; exact ih m h1 h2
    · exact ⟨n, hn, fun m hm => Nat.le_of_not_lt fun hl => h ⟨m, hl, hm⟩⟩
theorem AWP.scopeL {α : Type} {A B : Code} {l : Nat} (S : α → St) (I : α → Prop) (μ : α → Nat) (hf : findLabel (.seq A (.seq (.label l) B)) l = some (.seq .skip B)) (hA : AWP P (LabK S I K) A st)
    (step : ∀ x, I x → AWP P (JmpK l S I μ (μ x) K) B (S x)) : AWP P K (.scope (.seq A (.seq (.label l) B))) st := by
  intro cx m S0 a w hs
  classical
  let J : Act → World → Prop := fun a w => ∃ x m S', I x ∧ Sim cx m S' a w (S x)
  let at_ : Act → World → Nat → Prop := fun a w n => ∃ x m S', I x ∧ Sim cx m S' a w (S x) ∧ μ x = n
  let M : Act → World → Nat := fun a w => if h : ∃ n, at_ a w n then Classical.choose (least_nat h) else 0
  have hM : ∀ {a w x m S'}, I x → Sim cx m S' a w (S x) → M a w ≤ μ x := fun {a w x m S'} hI hs => by
    have h : ∃ n, at_ a w n := ⟨μ x, x, m, S', hI, hs, rfl⟩
    simp only [M, h, dif_pos]
    exact (Classical.choose_spec (least_nat h)).2 _ ⟨x, m, S', hI, hs, rfl⟩
  have hM2 : ∀ {a w}, J a w → ∃ x m S', I x ∧ Sim cx m S' a w (S x) ∧ μ x = M a w := fun {a w} ⟨x, m, S', hI, hs⟩ => by
    have h : ∃ n, at_ a w n := ⟨μ x, x, m, S', hI, hs, rfl⟩
    have := (Classical.choose_spec (least_nat h)).1
    simp only [M, h, dif_pos]
    exact this
  have pass : ∀ a w, J a w → B.wp P (Exit.jump l (fun a' w' => J a' w' ∧ M a' w' < M a w) (fun e a' w' => ∃ st' m' S', K e st' ∧ Sim cx m' S' a' w' st')) a w := fun a w hJ => by
    obtain ⟨x, m1, S1, hI, hs1, hx⟩ := hM2 hJ
    refine wp_mono (step x hI cx m1 S1 a w hs1) fun e a' w' ⟨st', m', S', h1, h2⟩ => ?_
    cases e with
    | goto l' =>
      obtain ⟨rfl, y, hy, hlt, hw⟩ := h1
      obtain ⟨m2, S2, h3⟩ := hw cx m' S' a' w' h2
      refine ⟨rfl, ⟨y, m2, S2, hy, h3⟩, ?_⟩
      have := hM hy h3
      omega
    | _ => exact ⟨st', m', S', h1, h2⟩
  refine wp_scope_jumps l J M hf ?_ fun a w hJ => wp_seq (wp_skip (pass a w hJ))
  refine wp_seq (wp_mono (hA cx m S0 a w hs) fun e a' w' ⟨st', m', S', h1, h2⟩ => ?_)
  cases e with
  | normal =>
    obtain ⟨x, hx, hw⟩ := h1
    obtain ⟨m2, S2, h3⟩ := hw cx m' S' a' w' h2
    refine wp_seq (wp_label ?_)
    refine wp_mono (pass a' w' ⟨x, m2, S2, hx, h3⟩) fun e a2 w2 hq => ?_
    cases e with
    | goto l' => exact ⟨hq.1, hq.2.1⟩
    | _ => exact hq
  | goto l' => exact h1.elim
  | _ => exact ⟨st', m', S', h1, h2⟩
end
section
variable {P : Program} {o : Oper} {st : St}
theorem Ofb {f : FuncId} {x : Operand} {ats : Array TypeId} {n : Int} (hc : ∀ w, (callFunc f #[.int .u64 n]).run P w = .ok (.value (.float .f64 n.toNat)) w) (ho : o.op = .call ⟨.value (.func f), #[x], ats⟩) (hx : opA st x = .d (.lit (.int .u64 n)) := by kernel_rfl) :
    OpRun P o st (locOf x) (.d (.lit (.float .f64 n.toNat))) [] := by
  refine .pure fun st' hag cx m S a w hs => ⟨.float .f64 n.toNat, ?_, by simp only [Rep]; unfold RepD; exact ⟨rfl, rfl⟩⟩
  have h1 := op_lit hx (fun _ h => h) hag hs
  have h2 : a.eval (.func f) = .func (.func f) #[] #[] := rfl
  simp [execOp, ho, resolve, invoke, h1, h2, hc, Deferred.ofValue]
/-- Doubles by their bits. -/
def feq (a b : Nat) : Bool := FloatKind.f64.format.order a b == some .eq
def fne (a b : Nat) : Bool := FloatKind.f64.format.order a b != some .eq
def flt (a b : Nat) : Bool := FloatKind.f64.format.order a b == some .lt
theorem hb_feql {t : TypeId} {x y : Operand} {a b : Nat} {w : World} : (do eqGuard .eql t x y (.float .f64 a) (.float .f64 b); binOp .eql t (.float .f64 a) (.float .f64 b) : Sem Value).run P w = .ok (.bool (feq a b)) w := by simp [eqGuard, binOp, Op.floatCmp, feq]
theorem hb_fneq {t : TypeId} {x y : Operand} {a b : Nat} {w : World} : (do eqGuard .neq t x y (.float .f64 a) (.float .f64 b); binOp .neq t (.float .f64 a) (.float .f64 b) : Sem Value).run P w = .ok (.bool (fne a b)) w := by simp [eqGuard, binOp, Op.floatCmp, fne]
theorem hb_flss {t : TypeId} {x y : Operand} {a b : Nat} {w : World} : (do eqGuard .lss t x y (.float .f64 a) (.float .f64 b); binOp .lss t (.float .f64 a) (.float .f64 b) : Sem Value).run P w = .ok (.bool (flt a b)) w := by simp [eqGuard, binOp, Op.floatCmp, flt]
theorem hu_xor {k : IntKind} {a : Int} {w : World} : (Op.unary .xor (.int k a)).run P w = .ok (.int k (k.wrap ((BitVec.ofInt k.bits (if k.signed then -1 else k.max) ^^^ BitVec.ofInt k.bits a).toNat))) w := by simp [Op.unary, Op.intBits]
end
theorem take_rep {β : Type} {zs : List β} {n c : Nat} (h : n ≤ c) : ((List.replicate c zs).flatten).take (n * zs.length) = (List.replicate n zs).flatten := by
  obtain ⟨d, rfl⟩ : ∃ d, c = n + d := ⟨c - n, by omega⟩
  rw [← List.replicate_append_replicate, List.flatten_append]
  exact List.take_left' (by rw [List.length_flatten, List.map_replicate, List.sum_replicate_nat])
/-- A row is made with room for more. -/
theorem op_makeC {P : Program} {o : Oper} {st : St} {t e sz by_ nid n cp : Nat} {z : Value} {l c : Operand} {kl kc : IntKind} {L C : Int} (ho : o.op = .makeSlice t l c) (E : ElemOK P t e sz by_ z) (hone : z.cells.toList.all (·.oneCell') = true) (hl : opA st l = .d (.lit (.int kl L))) (hc : opA st c = .d (.lit (.int kc C))) (hL : L = n) (hC : C = cp) (hnc : n ≤ cp)
    (hbytes : by_ * cp ≤ 281474976710656) (hnid : st.H.getD nid .unborn = .unborn) : OpRun P o st (locsOf [l, c] ++ [.blk nid]) (.own nid) [(nid, .arr e sz n (List.replicate n (z.cells.toList.map litD)).flatten)] := by
  refine .value fun st' hag cx m S a w hs => ?_
  have hnid' : st'.H.getD nid .unborn = .unborn := (blk1 (by simp) hag).trans hnid
  have e1 := op_lit hl (R := locsOf [l, c] ++ [.blk nid]) (fun l h => by simp [locsOf, h]) hag hs
  have e2 := op_lit hc (R := locsOf [l, c] ++ [.blk nid]) (fun l h => by simp [locsOf, h]) hag hs
  obtain ⟨i, hi, hz, h4, h5⟩ := E.parts
  have hm : cp ≤ maxLen := by
    have := Nat.le_mul_of_pos_left cp E.byp
    unfold maxLen; omega
  have hrun := run_make (P := P) w t e i z E.slice hi hz kl kc n cp (by omega) (by omega) (by rw [h5, ← Int.natCast_mul]; omega) (by unfold maxLen at hm; omega)
  simp only [Int.toNat_natCast] at hrun
  have hz1 := E.zs
  have h1 : ones z.cells.toList := fun v hv => List.all_eq_true.1 hone v hv
  have hflat : (madeCells z.cells (cp * i.size)).toList = (List.replicate cp z.cells.toList).flatten := by
    rw [h4, ← hz1]; exact made_flat _ _ (by rw [hz1]; exact E.pos)
  have hmem : ∀ v ∈ (List.replicate n z.cells.toList).flatten, v.oneCell' = true := fun v hv => by
    obtain ⟨l, hl, hv⟩ := List.mem_flatten.1 hv
    rw [(List.mem_replicate.1 hl).2] at hv
    exact h1 v hv
  have hlen : (madeCells z.cells (cp * i.size)).size = cp * sz := by rw [size_madeCells, h4]
  have hul : (List.replicate n z.cells.toList).flatten.length = n * sz := by rw [List.length_flatten, List.map_replicate, List.sum_replicate_nat, Array.length_toList, hz1]
  obtain ⟨m', k1, k2, k3, k4⟩ := hold_row (e := e) (sz := sz) (n := n) (cap := cp) (ds := (List.replicate n (z.cells.toList.map litD)).flatten) (us := (List.replicate n z.cells.toList).flatten) (cur := madeCells z.cells (cp * i.size)) hs.hold hnid'
    ⟨by rw [List.length_flatten, List.length_flatten, List.map_replicate, List.map_replicate, List.length_map], fun j x v hx hv => by
      have : (List.replicate n (z.cells.toList.map litD)).flatten = ((List.replicate n z.cells.toList).flatten).map litD := by rw [List.map_flatten, List.map_replicate]
      rw [this, List.getElem?_map, hv] at hx
      cases hx
      exact litD_rep (hmem v (List.mem_of_getElem? hv))⟩ hmem hul hnc hm hlen (by
        have := take_rep (zs := z.cells.toList) hnc
        rw [Array.length_toList, hz1] at this
        rw [hflat]; first | exact this | (rw [hul]; exact this))
  refine ⟨_, _, m', S, ?_, k1, fun _ h => h, k2, k3, k4 _⟩
  subst hL; subst hC
  simp [execOp, ho, e1, e2, hrun]
/-- A row's end is cleared. -/
theorem op_clear {P : Program} {o : Oper} {st : St} {t e sz by_ id a n k : Nat} {z : Value} {x : Operand} {xs : List D} (ho : o.op = .call ⟨.builtin .clear, #[x], #[t]⟩) (E : ElemOK P t e sz by_ z) (hone : z.cells.toList.all (·.oneCell') = true) (hx : opA st x = .sub id (a * sz) (k + 1)) (hb : st.H.getD id .unborn = .arr e sz n xs) (hxs : xs.length = n * sz) (hk : a + (k + 1) = n) :
    OpRun P o st (locOf x ++ [.blk id]) (.tup []) [(id, .arr e sz n (putC xs (a * sz) (List.replicate (k + 1) (z.cells.toList.map litD)).flatten))] := by
  refine .value fun st' hag cx m S act w hs => ?_
  have hb' : st'.H.getD id .unborn = .arr e sz n xs := (blk1 (by simp) hag).trans hb
  have hrd := op_rep hx (R := locOf x ++ [.blk id]) (fun l h => by simp [h]) hag hs
  have hok := hs.hold.ok id
  rw [hb'] at hok
  obtain ⟨v, h5, h6, h9⟩ := hok
  simp only [Rep, h5] at hrd
  obtain ⟨g, cp, hg, hev, _⟩ := hrd
  obtain ⟨i, hi, hz, h4, h5'⟩ := E.parts
  have hz1 := E.zs
  have h1 : ones z.cells.toList := fun v hv => List.all_eq_true.1 hone v hv
  have hmem : ones (List.replicate (k + 1) z.cells.toList).flatten := fun v hv => by
    obtain ⟨l, hl, hv⟩ := List.mem_flatten.1 hv
    rw [(List.mem_replicate.1 hl).2] at hv
    exact h1 v hv
  have hul : (List.replicate (k + 1) z.cells.toList).flatten.length = (k + 1) * sz := by rw [List.length_flatten, List.map_replicate, List.sum_replicate_nat, Array.length_toList, hz1]
  have hel : (List.replicate (k + 1) (z.cells.toList.map litD)).flatten.length = (k + 1) * sz := by rw [List.length_flatten, List.map_replicate, List.sum_replicate_nat, List.length_map, Array.length_toList, hz1]
  have hrep : RepsD S w (List.replicate (k + 1) (z.cells.toList.map litD)).flatten (List.replicate (k + 1) z.cells.toList).flatten := ⟨by rw [hul, hel], fun j x v hx hv => by
    have : (List.replicate (k + 1) (z.cells.toList.map litD)).flatten = ((List.replicate (k + 1) z.cells.toList).flatten).map litD := by rw [List.map_flatten, List.map_replicate]
    rw [this, List.getElem?_map, hv] at hx
    cases hx
    exact litD_rep (hmem v (List.mem_of_getElem? hv))⟩
  have hfit : a * sz + (List.replicate (k + 1) (z.cells.toList.map litD)).flatten.length ≤ xs.length := by
    rw [hel, hxs, ← hk, Nat.add_mul a]; exact Nat.le_refl _
  obtain ⟨cur, T, h10, h11, h12⟩ := rowOK_put h6 hg hrep hmem hfit
  have hst := run_storeCells_row P g (a * sz) T (List.replicate (k + 1) z.cells.toList).flatten 0 cur w h10 (by simpa using h11) hmem
  simp only [Nat.add_zero] at hst
  have hflat : (Builtin.zeroCells z.cells (k + 1)).toList = (List.replicate (k + 1) z.cells.toList).flatten := made_flat z.cells (k + 1) (by rw [hz1]; exact E.pos)
  have hrun : (Builtin.clear_ #[t] o.type #[.slice (some ⟨g, a * sz, none⟩) (k + 1) cp]).run P w = .ok (.tuple #[]) (w.setRow g (putC cur.toList (a * sz) (List.replicate (k + 1) z.cells.toList).flatten).toArray) := by
    simp [Builtin.clear_, run_underlying E.slice, zeroValue, typeInfo, hi, hz, hflat, hst, putC]
  have hw := hs.hold.write (w' := w.setRow g (putC cur.toList (a * sz) (List.replicate (k + 1) z.cells.toList).flatten).toArray) (b := .arr e sz n (putC xs (a * sz) (List.replicate (k + 1) (z.cells.toList.map litD)).flatten)) h5 hg (h9 g hg) rfl rfl rfl (by simp [World.setRow])
    (fun k hk hne => setRow_other w g k _ hne) (fun hK => ⟨v, h5, h12 (fun fz h => setRow_heap w g cur _ T fz h) (fun _ h => h) hK, h9⟩)
  refine ⟨.tuple #[], _, m, S, ?_, Le.refl m, fun _ h => h, hw.1, hw.2, by simp [Rep, Reps]⟩
  simp [execOp, ho, resolve, invoke, builtin, hev, hrun]
def clr {α : Type} (l : List α) (a : Nat) (z : α) : List α := l.take a ++ List.replicate (l.length - a) z
theorem clr_len {α : Type} {l : List α} {a : Nat} {z : α} (h : a < l.length) : (clr l a z).length = l.length := by
  unfold clr; rw [List.length_append, List.length_take, List.length_replicate]; omega
theorem clr_put {α : Type} {enc : α → List D} {l : List α} {a sz : Nat} {z0 : α} {zs : List D} (hl : ∀ a, (enc a).length = sz) (ha : a < l.length) (hz : zs = enc z0) : putC (flatD enc l) (a * sz) (List.replicate (l.length - a - 1 + 1) zs).flatten = flatD enc (clr l a z0) := by
  have e1 : (flatD enc l).take (a * sz) = flatD enc (l.take a) := by
    have := flat_cut (l := l) hl (a := 0) (b := a)
    simpa using this
  have e2 : (flatD enc l).drop (a * sz + (flatD enc (List.replicate (l.length - a) z0)).length) = [] := by
    apply List.drop_eq_nil_of_le
    rw [flatD_length hl, flatD_length hl, List.length_replicate, ← Nat.add_mul]
    exact Nat.mul_le_mul_right _ (by omega)
  rw [show l.length - a - 1 + 1 = l.length - a by omega, flat_rep hz]
  unfold putC clr
  rw [e1, e2, List.append_nil, flatD_append]
theorem Ocl {P : Program} {o : Oper} {st : St} {α : Type} {enc : α → List D} {l : List α} {a e sz by_ t id : Nat} {z : Value} {z0 : α} {x : Operand} (ho : o.op = .call ⟨.builtin .clear, #[x], #[t]⟩) (E : ElemOK P t e sz by_ z) (hl : ∀ a, (enc a).length = sz) (ha : a < l.length) (hz : z.cells.toList.map litD = enc z0 := by kernel_rfl) (hone : z.cells.toList.all (·.oneCell') = true := by kernel_rfl)
    (hx : opA st x = .sub id (a * sz) (l.length - a - 1 + 1) := by kernel_rfl) (hb : st.H.getD id .unborn = .arr e sz l.length (flatD enc l) := by kernel_rfl) :
    OpRun P o st (locOf x ++ [.blk id]) (.tup []) [(id, .arr e sz (clr l a z0).length (flatD enc (clr l a z0)))] := by
  rw [← clr_put hl ha hz, clr_len ha]
  exact op_clear ho E hone hx hb (flatD_length hl l) (by omega)
/-- A row's end as a part of it. -/
theorem Osb {P : Program} {o : Oper} {st : St} {α : Type} {enc : α → List D} {l : List α} {a e sz t id : Nat} {k : IntKind} {iv : Int} {x y : Operand} (ho : o.op = .slice t x (some y) none none) (hl : ∀ a, (enc a).length = sz) (ha : a < l.length) (hiv : iv = (a : Int)) (hsz : Nat.blt 0 sz = true := by rfl) (he : sliceElem P t = some (e, sz) := by kernel_rfl) (hx : opA st x = .own id := by kernel_rfl)
    (hb : st.H.getD id .unborn = .arr e sz l.length (flatD enc l) := by kernel_rfl) (hy : opA st y = .d (.lit (.int k iv)) := by kernel_rfl) : OpRun P o st (locsOf (x :: ((some y).toList ++ (none : Option Operand).toList)) ++ locA (.own id)) (.sub id (a * sz) (l.length - a - 1 + 1)) [] := by
  have hs : sliceAt st.H (.own id) = some (flatD enc l, 0, l.length) := by simp only [sliceAt, hb]
  have := op_slice (l := a) (h := l.length) ho he hx hs ⟨k, iv, hy, hiv⟩ rfl (by omega) (Nat.le_refl _) (.inl ha) (by
    show a * sz < (flatD enc l).length
    rw [flatD_length hl]
    exact Nat.mul_lt_mul_of_pos_right ha (Nat.le_of_ble_eq_true hsz))
  rw [show l.length - a - 1 + 1 = l.length - a by omega]
  exact this
/-- An array is built. -/
def buildArr (P : Program) (t n sz : Nat) (parts : List (Nat × A)) : Option A := match zeroA P t with
  | some zs => (match fillA ((List.range n).map fun i => (i * sz, sz)) zs parts with | some ys => some (.agg ys) | none => none)
  | none => none
theorem ObA {P : Program} {o : Oper} {st : St} {t e n sz : Nat} {parts : List (Nat × Operand)} {z : A} (ho : o.op = .build t parts.toArray) (hu : P.underlying t = some (.array n e)) (hi : (P.info? e).map (·.size) = some sz) (h : buildArr P t n sz (partsA st parts) = some z := by kernel_rfl) : OpRun P o st (partLocs parts) z [] := by
  unfold buildArr at h
  split at h
  case h_2 => cases h
  rename_i zs hz
  split at h
  case h_2 => cases h
  rename_i ys hf
  cases h
  refine .pure fun st' hag cx m S a w hs => ?_
  obtain ⟨i, z, hi', hzz, h1, rfl⟩ := zeroA_spec hz
  obtain ⟨j, hj, hjs⟩ : ∃ j, P.info? e = some j ∧ j.size = sz := by
    cases hx : P.info? e with
    | none => rw [hx] at hi; cases hi
    | some j => rw [hx] at hi; exact ⟨j, rfl, by simpa using hi⟩
  obtain ⟨cells, h2, h3, h4⟩ := fill_spec (m := m) (S := S) (w := w) (pl := fun i => some (i * sz, sz)) (fun i q h => by
    obtain ⟨hl, h⟩ := List.getElem?_eq_some_iff.1 h
    rw [List.getElem_map, List.getElem_range] at h
    rw [h]) (vparts := parts.map fun p => (p.1, a.eval p.2)) hf (litAs_rep z.cells.toList) h1 (by simp [partsA]) (parts_reps (fun _ h => h) hag hs)
  refine ⟨.agg cells, ?_, by simp only [Rep]; exact ⟨_, rfl, h3⟩⟩
  have e' : (parts.toArray.map fun p : Nat × Operand => (p.1, a.eval p.2)).toList = parts.map fun p => (p.1, a.eval p.2) := by simp
  simp only [execOp, ho, Instr.build, Sem.run_bind]
  simp only [zeroValue, typeInfo, hi', hzz, Sem.run_bind, run_program, Result.andThen_ok, Sem.run_pure, run_underlying hu, sizeOf, hj, hjs]
  erw [e', h2]
  rfl
/-- A string's bytes as a row. -/
theorem lit_bytes {l : List UInt8} : A.d (.sl (toS l).size (bytesD (toS l).data.toList)) = A.d (.sl (List.length l) (flatD encU8 l)) := by
  rw [flatU8]; rfl
end Go.Proofs.Ytdpmojhejidhiaa.K
