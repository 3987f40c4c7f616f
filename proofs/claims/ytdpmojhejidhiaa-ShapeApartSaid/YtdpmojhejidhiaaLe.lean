/- More operations for lift.py: interface values, a slice cut at its length, bits. -/
import Derived.Test.YtdpmojhejidhiaaLc
namespace Go.Proofs.Ytdpmojhejidhiaa.K
open Go.RowKit Go.Lib
set_option linter.unusedVariables false
set_option linter.unusedSimpArgs false
/-- An interface value's content, asked for a type that is a number's: it and true; or 0 and false. -/
def tasI (k : IntKind) (t : Nat) : Value → Option (Int × Bool)
  | .iface t' u => match Nat.beq t' t with
    | true => (match u with | .int k' n => (match decide (k' = k) with | true => some (n, true) | false => none) | _ => none)
    | false => some (0, false)
  | .nilIface => some (0, false)
  | _ => none
def tasS (t : Nat) : Value → Option (List UInt8 × Bool)
  | .iface t' u => match Nat.beq t' t with
    | true => (match u with | .string s => some (s.data.toList, true) | _ => none)
    | false => some ([], false)
  | .nilIface => some ([], false)
  | _ => none
/-- Does it hold a thing of a type? -/
def isT (t : Nat) : Value → Bool
  | .iface t' _ => Nat.beq t' t
  | _ => false
def inI (k : IntKind) : Value → Option Int
  | .iface _ (.int k' n) => match decide (k' = k) with | true => some n | false => none
  | _ => none
def inS : Value → Option (List UInt8)
  | .iface _ (.string s) => some s.data.toList
  | _ => none
theorem inI_some {k : IntKind} {t : Nat} {v : Value} {n : Int} (ht : isT t v = true) (h : inI k v = some n) : v = .iface t (.int k n) := by
  cases v with
  | iface t' u =>
    have := Nat.eq_of_beq_eq_true ht
    subst this
    cases u with
    | int k' m =>
      simp only [inI] at h
      split at h
      · rename_i hk; cases h; rw [of_decide_eq_true hk]
      · cases h
    | _ => cases h
  | _ => cases ht
theorem inS_some {t : Nat} {v : Value} {l : List UInt8} (ht : isT t v = true) (h : inS v = some l) : v = .iface t (.string (toS l)) := by
  cases v with
  | iface t' u =>
    have := Nat.eq_of_beq_eq_true ht
    subst this
    cases u with
    | string s => cases h; rfl
    | _ => cases h
  | _ => cases ht
def notIface (P : Program) (t : TypeId) : Bool := match P.underlying t with
  | some (.interface _) => false
  | some _ => true
  | none => false
section
variable {P : Program} {o : Oper} {st : St}
theorem Oif {t : TypeId} {x : Operand} {v : Value} (ho : o.op = .makeInterface t x) (hx : opA st x = .d (.lit v) := by kernel_rfl) (ht : notIface P t = true := by kernel_rfl) : OpRun P o st (locOf x) (.d (.lit (.iface t v))) [] := by
  refine .pure fun st' hag cx m S a w hs => ⟨.iface t v, ?_, by simp only [Rep]; unfold RepD; exact ⟨rfl, rfl⟩⟩
  have h1 := op_lit hx (fun _ h => h) hag hs
  unfold notIface at ht
  cases hu : P.underlying t with
  | none => rw [hu] at ht; cases ht
  | some d =>
    rw [hu] at ht
    cases d <;> first | (simp at ht; done) | simp [execOp, ho, h1, Instr.makeInterface, run_underlying hu]
def zeroOf (P : Program) (t : TypeId) : Option Value := match P.info? t with
  | some i => i.zero
  | none => none
theorem run_zero {t : TypeId} {z : Value} (h : zeroOf P t = some z) (w : World) : (zeroValue t).run P w = .ok z w := by
  unfold zeroOf at h
  split at h
  · rename_i i hi; simp [zeroValue, typeInfo, hi, h]
  · cases h
theorem OtI {T t : TypeId} {x : Operand} {k : IntKind} {v : Value} {r : Int × Bool} (hv : tasI k t v = some r) (ho : o.op = .typeAssert x T t true) (hx : opA st x = .d (.lit v) := by kernel_rfl) (ht : notIface P t = true := by kernel_rfl) (hz : zeroOf P t = some (.int k 0) := by kernel_rfl) :
    OpRun P o st (locOf x) (.tup [.d (.lit (.int k r.1)), .d (.lit (.bool r.2))]) [] := by
  refine .pure fun st' hag cx m S a w hs => ⟨.tuple #[.int k r.1, .bool r.2], ?_, ?_⟩
  · have h1 := op_lit hx (fun _ h => h) hag hs
    have hzr := run_zero hz w
    unfold notIface at ht
    cases hu : P.underlying t with
    | none => rw [hu] at ht; cases ht
    | some d =>
      rw [hu] at ht
      cases v with
      | nilIface => cases hv; cases d <;> first | (simp at ht; done) | simp [execOp, ho, h1, Instr.typeAssert, run_underlying hu, hzr]
      | iface t' u =>
        simp only [tasI] at hv
        split at hv
        · rename_i hb
          have := Nat.eq_of_beq_eq_true hb
          subst this
          cases u with
          | int k' n =>
            simp only at hv
            split at hv
            · rename_i hk
              cases hv
              rw [of_decide_eq_true hk] at h1
              cases d <;> first | (simp at ht; done) | simp [execOp, ho, h1, Instr.typeAssert, run_underlying hu]
            · cases hv
          | _ => cases hv
        · rename_i hb
          cases hv
          have hne : ¬ t' = t := fun e => by subst e; rw [Nat.beq_refl] at hb; cases hb
          cases d <;> first | (simp at ht; done) | simp [execOp, ho, h1, Instr.typeAssert, run_underlying hu, hne, hzr]
      | _ => cases hv
  · simp only [Rep, Reps]
    refine ⟨_, rfl, _, _, rfl, ?_, _, _, rfl, ?_, rfl⟩ <;> (unfold RepD; exact ⟨rfl, rfl⟩)
theorem OtS {T t : TypeId} {x : Operand} {v : Value} {r : List UInt8 × Bool} (hv : tasS t v = some r) (ho : o.op = .typeAssert x T t true) (hx : opA st x = .d (.lit v) := by kernel_rfl) (ht : notIface P t = true := by kernel_rfl) (hz : zeroOf P t = some (.string ⟨#[]⟩) := by kernel_rfl) :
    OpRun P o st (locOf x) (.tup [.d (.lit (.string (toS r.1))), .d (.lit (.bool r.2))]) [] := by
  refine .pure fun st' hag cx m S a w hs => ⟨.tuple #[.string (toS r.1), .bool r.2], ?_, ?_⟩
  · have h1 := op_lit hx (fun _ h => h) hag hs
    have hzr := run_zero hz w
    unfold notIface at ht
    cases hu : P.underlying t with
    | none => rw [hu] at ht; cases ht
    | some d =>
      rw [hu] at ht
      cases v with
      | nilIface => cases hv; cases d <;> first | (simp at ht; done) | (simp [execOp, ho, h1, Instr.typeAssert, run_underlying hu, hzr]; rfl)
      | iface t' u =>
        simp only [tasS] at hv
        split at hv
        · rename_i hb
          have := Nat.eq_of_beq_eq_true hb
          subst this
          cases u with
          | string s => cases hv; cases d <;> first | (simp at ht; done) | (simp [execOp, ho, h1, Instr.typeAssert, run_underlying hu]; rfl)
          | _ => cases hv
        · rename_i hb
          cases hv
          have hne : ¬ t' = t := fun e => by subst e; rw [Nat.beq_refl] at hb; cases hb
          cases d <;> first | (simp at ht; done) | (simp [execOp, ho, h1, Instr.typeAssert, run_underlying hu, hne, hzr]; rfl)
      | _ => cases hv
  · simp only [Rep, Reps]
    refine ⟨_, rfl, _, _, rfl, ?_, _, _, rfl, ?_, rfl⟩ <;> (unfold RepD; exact ⟨rfl, rfl⟩)
/-- A method of what an interface value holds: one number or text, no further arguments. -/
theorem Oiv {recv : Operand} {name : String} {ats : Array TypeId} {f : FuncId} {t : TypeId} {u : Value} {res : A} (con : GCall P f [.d (.lit u)] [] res []) (hp : res.Plain) (hin : ∀ args w, (callFunc f args).run P w = .ok (.enter f args) w)
    (hm : ∀ w, (method (P.types.size + Made.depth) t u name).run P w = .ok (f, u) w) (ho : o.op = .call ⟨.invoke recv name, #[], ats⟩) (hx : opA st recv = .d (.lit (.iface t u)) := by kernel_rfl) (hone : u.oneCell' = true := by rfl) (hr : res.ren [] = some res := by kernel_rfl) : OpRun P o st (locOf recv) res [] := by
  intro st' hag hlen cx m S a w hs
  have h1 := op_lit hx (fun _ h => h) hag hs
  have e : (execOp a.eval o).run P w = .ok (.enter f #[u]) w := by
    simp [execOp, ho, resolve, invoke, callMethod, h1, hm w, hin]
  rw [e]
  have hn : ([] ++ [] : List Nat).Nodup := List.nodup_nil
  have hdis : ∀ id ∈ ([] : List Nat), id ∉ ([] ++ [] : List Nat) := fun id hid => by cases hid
  have hargs : Reps m (SV' m S []) w [A.d (.lit u)] [u] := by
    simp only [Reps, Rep]
    exact ⟨u, [], rfl, by unfold RepD; exact ⟨rfl, hone⟩, rfl⟩
  have hpre : renH [] ([] : List Blk) st'.H := ⟨rfl, fun j k h => by simp at h⟩
  have hrun := call_core (vids := []) (nids := []) (pids := []) hs.hold con hargs rfl hpre hn hdis
  refine Calls.mono hrun fun e w' ⟨v, he, m1, S1, h1, h2⟩ => ⟨v, he, ?_⟩
  obtain ⟨m2, hv, hLe, hK, hother, hfree, hV, hold⟩ := merge (post' := []) hs.hold hn hpre ⟨rfl, fun j b h => by simp at h⟩ (fun b h => by cases h) (fun id h => by cases h) hdis h1
  refine ⟨m2, S, hLe, fun _ h => h, hK, hold S _ (fun _ h => h) (fun b hb => h1.s0 b (.inl hb)) (fun j k hj => by simp at hj) (fun k hk => by cases hk) (fun k hk hkv => rfl), ?_⟩
  rw [← hv] at h2
  exact Rep.plain _ _ hp ((Rep.via res res v hr).1 h2)
theorem hb_andNot {t : TypeId} {x y : Operand} {k : IntKind} {a b : Int} {w : World} : (do eqGuard .andNot t x y (.int k a) (.int k b); binOp .andNot t (.int k a) (.int k b) : Sem Value).run P w = .ok (.int k (k.wrap ((BitVec.ofInt k.bits a &&& ~~~ BitVec.ofInt k.bits b).toNat))) w := by
  simp [eqGuard, binOp, Op.intBits]
/-- A slice that is cut at its length: what is appended to it lies elsewhere. -/
theorem Oct {α : Type} {enc : α → List D} {l : List α} {sz t : Nat} {x hi mx : Operand} (ho : o.op = .slice t x none (some hi) (some mx)) (hl : ∀ a, (enc a).length = sz) (hx : opA st x = .d (.sl l.length (flatD enc l)) := by kernel_rfl) (he : (sliceElem P t).map Prod.snd = some sz := by kernel_rfl)
    (hh : intOf (opA st hi) = some (l.length : Int) := by kernel_rfl) (hm : intOf (opA st mx) = some (l.length : Int) := by kernel_rfl) : OpRun P o st (locsOf [x, hi, mx]) (.d (.slc l.length (flatD enc l))) [] := by
  refine .pure fun st' hag cx m S a w hs => ?_
  have hr := op_rep hx (R := locsOf [x, hi, mx]) (fun l h => by simp [locsOf, h]) hag hs
  obtain ⟨k1, e1⟩ := intOf_spec hh
  obtain ⟨k2, e2⟩ := intOf_spec hm
  have h1 := op_lit e1 (R := locsOf [x, hi, mx]) (fun l h => by simp [locsOf, h]) hag hs
  have h2 := op_lit e2 (R := locsOf [x, hi, mx]) (fun l h => by simp [locsOf, h]) hag hs
  simp only [Rep] at hr
  unfold RepD at hr
  obtain ⟨p, cap, hv, q1, q2, q3, q4⟩ := hr
  cases hs0 : sliceElem P t with
  | none => rw [hs0] at he; cases he
  | some q =>
    obtain ⟨e, s⟩ := q
    rw [hs0] at he
    cases he
    obtain ⟨hu, inf, hinf, hsz⟩ := sliceElem_spec hs0
    refine ⟨.slice p l.length l.length, ?_, ?_⟩
    · have hadd : ∀ p : Option Addr, p.map (·.add 0) = p := fun p => by cases p <;> simp [Addr.add]
      simp [execOp, ho, Instr.sliceAt, Instr.slice, run_underlying hu, hv, h1, h2, Instr.sliceBounds, Instr.sliceBound, asIntOf, q1, sizeOf, typeInfo, hinf, hsz, hadd]
    · simp only [Rep]
      unfold RepD
      exact ⟨p, rfl, by omega, fun h => (q3 h).1, q4⟩
theorem Oac {α : Type} {enc : α → List D} {l r a : List α} {e sz by_ nid : Nat} {z : Value} {t : TypeId} {s x : Operand} (ho : o.op = .call ⟨.builtin .append, #[s, x], #[t, t]⟩) (E : ElemOK P t e sz by_ z) (hl : ∀ a, (enc a).length = sz) (he : a = l ++ r) (hle : l.length + r.length ≤ 1000000000) (hr0 : 0 < r.length)
    (hb : Nat.ble by_ 140000 = true := by rfl) (hs0 : opA st s = .d (.slc l.length (flatD enc l)) := by kernel_rfl) (hy : sliceAt st.H (opA st x) = some (flatD enc r, 0, r.length) := by kernel_rfl) (hnid : st.H.getD nid .unborn = .unborn := by kernel_rfl) :
    OpRun P o st (locsOf [s, x] ++ (locA (opA st x) ++ [.blk nid])) (.own nid) [(nid, .arr e sz a.length (flatD enc a))] := by
  subst he
  refine .value fun st' hag cx m S act w hs => ?_
  have hnid' : st'.H.getD nid .unborn = .unborn := (blk1 (by simp) hag).trans hnid
  have hrs := op_rep hs0 (R := locsOf [s, x] ++ (locA (opA st x) ++ [.blk nid])) (fun l h => by simp [locsOf, h]) hag hs
  have hrx := op_rep (y := opA st x) rfl (R := locsOf [s, x] ++ (locA (opA st x) ++ [.blk nid])) (fun l h => by simp [locsOf, h]) hag hs
  rw [← sliceA_agree fun l h => hag l (by simp [h])] at hy
  obtain ⟨p, cap, hv, h1, h2, h3, h4⟩ := sliceAt_spec hs.hold hy hrx
  simp only [Rep] at hrs
  unfold RepD at hrs
  obtain ⟨b, hb0, hmx, hbn, hbr⟩ := hrs
  obtain ⟨us, k1, k2, k3⟩ := cells_news (k := r.length * sz) (es := flatD enc r) h4 (flat_all hl)
  have hul : us.length = r.length * sz := by rw [k1.1, flatD_length hl]
  obtain ⟨olds, o1, o2, o3⟩ := cells_news (p := b) (off := 0) (k := l.length * sz) (es := flatD enc l) (w := w) (S := S) (ds := flatD enc l) (fun i x hx => by
    obtain ⟨q, u, h6, h7, h8, h9, h10⟩ := RepDs.at _ _ 0 hbr i x (by simpa using hx)
    exact ⟨q, u, h6, by simpa using h7, h9, h10⟩) (flat_all hl)
  have hol : olds.length = l.length * sz := by rw [o1.1, flatD_length hl]
  obtain ⟨i, hi, hz, h5, h6⟩ := E.parts
  have hby := app_bytes hle (Nat.le_of_ble_eq_true hb)
  have hlen : l.length + r.length ≤ maxLen := by unfold maxLen; omega
  have hp : ∃ q, p = some q := by
    cases p with
    | none => have := (h3 rfl).1; omega
    | some q => exact ⟨q, rfl⟩
  obtain ⟨q, rfl⟩ := hp
  have hrun : ∃ cap' cur, (Builtin.append_ #[t, t] o.type #[.slice b l.length l.length, .slice (some q) r.length cap]).run P w = .ok (.slice (some ⟨w.heap.size, 0, none⟩) (l.length + r.length) cap') (w.drew.alloc (.cells cur e)) ∧
      l.length + r.length ≤ cap' ∧ cap' ≤ maxLen ∧ cur.size = cap' * sz ∧ cur.toList.take ((l.length + r.length) * sz) = olds ++ us := by
    cases b with
    | some g =>
      refine ⟨_, _, run_append_grow (P := P) w t o.type e i z E.slice hi hz g l.length l.length olds (by rw [h5]; exact hol) (fun j v hj => o3 g rfl j v hj) q r.length cap us (by rw [h5]; exact hul) (fun j v hj => k3 q rfl j v hj) (by omega) (by unfold maxLen at hlen; omega) (growslice_fits (by omega) (by rw [h6]; exact hby)), grownCap_ge _ _ _ _, grownCap_le_maxLen _ _ _ _ hlen, ?_, ?_⟩
      · rw [Array.size_append, Array.size_append, size_zeroCells, E.zs]
        simp only [List.size_toArray, hol, hul]
        have := grownCap_ge w (l.length + r.length) l.length e
        rw [← Nat.add_mul, ← Nat.add_mul]
        congr 1; omega
      · rw [Array.toList_append, Array.toList_append, List.take_append_of_le_length (by simp [hol, hul, Nat.add_mul])]
        simp only [List.toList_toArray]
        exact List.take_of_length_le (by simp [hol, hul, Nat.add_mul])
    | none =>
      have hl0 := hbn rfl
      have hle0 : l = [] := List.eq_nil_of_length_eq_zero hl0
      subst hle0
      have ho0 : olds = [] := List.eq_nil_of_length_eq_zero (by simpa using hol)
      subst ho0
      have hrun := run_append_nil (P := P) (w := w) t o.type e i z E.slice hi hz q r.length cap us (by rw [h5]; exact hul) (fun j v hj => k3 q rfl j v hj) hr0 (by unfold maxLen at hlen; simp at hlen; omega) (by rw [h6]; simp at hby; omega)
      refine ⟨grownCap w r.length 0 e, us.toArray ++ Builtin.zeroCells z.cells (grownCap w r.length 0 e - r.length), by simpa using hrun, by simpa using grownCap_ge w r.length 0 e, grownCap_le_maxLen _ _ _ _ (by simpa using hlen), ?_, ?_⟩
      · rw [Array.size_append, size_zeroCells, E.zs]
        simp only [List.size_toArray, hul]
        have := grownCap_ge w r.length 0 e
        rw [← Nat.add_mul]
        congr 1; omega
      · rw [Array.toList_append, List.take_append_of_le_length (by simp [hul])]
        simp only [List.toList_toArray, List.nil_append, List.length_nil, Nat.zero_add]
        exact List.take_of_length_le (by rw [hul]; exact Nat.le_refl _)
  obtain ⟨cap', cur, hrun, g1, g2, g3, g4⟩ := hrun
  have hd := hs.hold.drew
  obtain ⟨m', j1, j2, j3, j4⟩ := hold_row (e := e) (sz := sz) (n := l.length + r.length) (cap := cap') (ds := flatD enc l ++ flatD enc r) (us := olds ++ us) (cur := cur) hd hnid'
    (by
      have r1 : RepsD S w.drew _ _ := RepsD.mono (S := S) (S' := S) (w := w) (w' := w.drew) (fun _ h => h) (fun _ _ => rfl) o1
      have r2 : RepsD S w.drew _ _ := RepsD.mono (S := S) (S' := S) (w := w) (w' := w.drew) (fun _ h => h) (fun _ _ => rfl) k1
      refine ⟨by simp [r1.1, r2.1], fun i x u hx hu => ?_⟩
      rw [List.getElem?_append] at hx hu
      rw [r1.1] at hu
      split at hx
      · rename_i hi; rw [if_pos hi] at hu; exact r1.2 i x u hx hu
      · rename_i hi; rw [if_neg hi] at hu; exact r2.2 _ x u hx hu)
    (fun u hu => by
      rcases List.mem_append.1 hu with hu | hu
      · exact o2 u hu
      · exact k2 u hu)
    (by simp [hol, hul, Nat.add_mul]) g1 g2 g3 g4
  refine ⟨_, _, m', S, ?_, j1, fun _ h => h, fun b hb => (j2 b hb), ?_, j4 _⟩
  · simp [execOp, ho, resolve, invoke, builtin, hb0, hv, hrun]
  · have e1 : (l ++ r).length = l.length + r.length := List.length_append
    have e2 : flatD enc (l ++ r) = flatD enc l ++ flatD enc r := flatD_append _ _
    show Hold cx m' S _ (putB st'.H [(nid, .arr e sz (l ++ r).length (flatD enc (l ++ r)))])
    rw [e1, e2]
    exact j3
end
end Go.Proofs.Ytdpmojhejidhiaa.K
