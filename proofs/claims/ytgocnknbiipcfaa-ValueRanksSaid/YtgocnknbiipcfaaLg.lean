/- More for lift.py: jumps to a label, doubles by their bits, bits turned, a row's end cleared. -/
import Derived.Test.YtgocnknbiipcfaaLe
import Derived.ScopeJumps
namespace Go.Proofs.Ytgocnknbiipcfaa.K
open Go.RowKit Go.Lib
set_option linter.unusedVariables false
section
variable {P : Program} {K : Exit → St → Prop} {b c : Code} {st : St}
theorem AWP.goto {l : Nat} (h : K (.goto l) st) : AWP P K (.goto l) st := fun cx m S a w hs => wp_goto ⟨st, m, S, h, hs⟩
theorem AWP.label {l : Nat} (h : K .normal st) : AWP P K (.label l) st := fun cx m S a w hs => wp_label ⟨st, m, S, h, hs⟩
theorem Then.goto {l : Nat} (h : K (.goto l) st) : Then P K b (.goto l) st := h
theorem InBlock.goto {l id : Nat} (h : K (.goto l) st) : InBlock id K (.goto l) st := h
theorem RoundK.goto {n l : Nat} (h : K (.goto l) st) : RoundK P K c n (.goto l) st := h
/-- Up to the label. -/
def LabK {α : Type} (S : α → St) (I : α → Prop) (K : Exit → St → Prop) : Exit → St → Prop
  | .normal, st => ∃ x, I x ∧ Weak st (S x)
  | .goto _, _ => False
  | e, st => K e st
/-- From the label on. -/
def JmpK {α : Type} (l : Nat) (S : α → St) (I : α → Prop) (μ : α → Nat) (n : Nat) (K : Exit → St → Prop) : Exit → St → Prop
  | .goto l', st => l' = l ∧ ∃ y, I y ∧ μ y < n ∧ Weak st (S y)
  | e, st => K e st
section
variable {α : Type} {S : α → St} {I : α → Prop} {μ : α → Nat} {l n : Nat}
theorem LabK.ret (h : K .ret st) : LabK S I K .ret st := h
theorem LabK.exit {id : Nat} (h : K (.exit id) st) : LabK S I K (.exit id) st := h
theorem JmpK.ret (h : K .ret st) : JmpK l S I μ n K .ret st := h
theorem JmpK.exit {id : Nat} (h : K (.exit id) st) : JmpK l S I μ n K (.exit id) st := h
theorem JmpK.normal (h : K .normal st) : JmpK l S I μ n K .normal st := h
end
theorem least_nat {p : Nat → Prop} (h : ∃ n, p n) : ∃ n, p n ∧ ∀ m, p m → n ≤ m := by
  obtain ⟨n, hn⟩ := h
  induction n using Nat.strongRecOn with
  | ind n ih =>
    by_cases h : ∃ m, m < n ∧ p m
    · obtain ⟨m, h1, h2⟩ := h; exact ih m h1 h2
    · exact ⟨n, hn, fun m hm => Nat.le_of_not_lt fun hl => h ⟨m, hl, hm⟩⟩
theorem AWP.scopeL {α : Type} {A B : Code} {l : Nat} (S : α → St) (I : α → Prop) (μ : α → Nat) (hf : findLabel (.seq A (.seq (.label l) B)) l = some B) (hA : AWP P (LabK S I K) A st)
    (step : ∀ x, I x → AWP P (JmpK l S I μ (μ x) K) B (S x)) : AWP P K (.scope (.seq A (.seq (.label l) B))) st := by
  intro cx m S0 a w hs
  classical
  let J : Act → World → Prop := fun a w => ∃ x m S', I x ∧ Sim cx m S' a w (S x)
  let at_ : Act → World → Nat → Prop := fun a w n => ∃ x m S', I x ∧ Sim cx m S' a w (S x) ∧ μ x = n
  let M : Act → World → Nat := fun a w => if h : ∃ n, at_ a w n then Classical.choose (least_nat h) else 0
  have hM : ∀ {a w x m S'}, I x → Sim cx m S' a w (S x) → M a w ≤ μ x := fun {a w x m S'} hI hs => by
    have h : ∃ n, at_ a w n := ⟨μ x, x, m, S', hI, hs, rfl⟩
    simp only [M, h, dif_pos]
    exact (Classical.choose_spec (least_nat h)).2 _ ⟨x, m, S', hI, hs, rfl⟩
  have hM2 : ∀ {a w}, J a w → ∃ x m S', I x ∧ Sim cx m S' a w (S x) ∧ μ x = M a w := fun {a w} ⟨x, m, S', hI, hs⟩ => by
    have h : ∃ n, at_ a w n := ⟨μ x, x, m, S', hI, hs, rfl⟩
    have := (Classical.choose_spec (least_nat h)).1
    simp only [M, h, dif_pos]
    exact this
  have pass : ∀ a w, J a w → B.wp P (Exit.jump l (fun a' w' => J a' w' ∧ M a' w' < M a w) (fun e a' w' => ∃ st' m' S', K e st' ∧ Sim cx m' S' a' w' st')) a w := fun a w hJ => by
    obtain ⟨x, m1, S1, hI, hs1, hx⟩ := hM2 hJ
    refine wp_mono (step x hI cx m1 S1 a w hs1) fun e a' w' ⟨st', m', S', h1, h2⟩ => ?_
    cases e with
    | goto l' =>
      obtain ⟨rfl, y, hy, hlt, hw⟩ := h1
      obtain ⟨m2, S2, h3⟩ := hw cx m' S' a' w' h2
      refine ⟨rfl, ⟨y, m2, S2, hy, h3⟩, ?_⟩
      have := hM hy h3
      omega
    | _ => exact ⟨st', m', S', h1, h2⟩
  refine wp_scope_jumps l J M hf ?_ pass
  refine wp_seq (wp_mono (hA cx m S0 a w hs) fun e a' w' ⟨st', m', S', h1, h2⟩ => ?_)
  cases e with
  | normal =>
    obtain ⟨x, hx, hw⟩ := h1
    obtain ⟨m2, S2, h3⟩ := hw cx m' S' a' w' h2
    refine wp_seq (wp_label ?_)
    refine wp_mono (pass a' w' ⟨x, m2, S2, hx, h3⟩) fun e a2 w2 hq => ?_
    cases e with
    | goto l' => exact ⟨hq.1, hq.2.1⟩
    | _ => exact hq
  | goto l' => exact h1.elim
  | _ => exact ⟨st', m', S', h1, h2⟩
end
section
variable {P : Program} {o : Oper} {st : St}
theorem Ofb {f : FuncId} {x : Operand} {ats : Array TypeId} {n : Int} (hc : ∀ w, (callFunc f #[.int .u64 n]).run P w = .ok (.value (.float .f64 n.toNat)) w) (ho : o.op = .call ⟨.value (.func f), #[x], ats⟩) (hx : opA st x = .d (.lit (.int .u64 n)) := by kernel_rfl) :
    OpRun P o st (locOf x) (.d (.lit (.float .f64 n.toNat))) [] := by
  refine .pure fun st' hag cx m S a w hs => ⟨.float .f64 n.toNat, ?_, by simp only [Rep]; unfold RepD; exact ⟨rfl, rfl⟩⟩
  have h1 := op_lit hx (fun _ h => h) hag hs
  have h2 : a.eval (.func f) = .func (.func f) #[] #[] := rfl
  simp [execOp, ho, resolve, invoke, h1, h2, hc, Deferred.ofValue]
/-- Doubles by their bits. -/
def feq (a b : Nat) : Bool := FloatKind.f64.format.order a b == some .eq
def fne (a b : Nat) : Bool := FloatKind.f64.format.order a b != some .eq
def flt (a b : Nat) : Bool := FloatKind.f64.format.order a b == some .lt
theorem hb_feql {t : TypeId} {x y : Operand} {a b : Nat} {w : World} : (do eqGuard .eql t x y (.float .f64 a) (.float .f64 b); binOp .eql t (.float .f64 a) (.float .f64 b) : Sem Value).run P w = .ok (.bool (feq a b)) w := by simp [eqGuard, binOp, Op.floatCmp, feq]
theorem hb_fneq {t : TypeId} {x y : Operand} {a b : Nat} {w : World} : (do eqGuard .neq t x y (.float .f64 a) (.float .f64 b); binOp .neq t (.float .f64 a) (.float .f64 b) : Sem Value).run P w = .ok (.bool (fne a b)) w := by simp [eqGuard, binOp, Op.floatCmp, fne]
theorem hb_flss {t : TypeId} {x y : Operand} {a b : Nat} {w : World} : (do eqGuard .lss t x y (.float .f64 a) (.float .f64 b); binOp .lss t (.float .f64 a) (.float .f64 b) : Sem Value).run P w = .ok (.bool (flt a b)) w := by simp [eqGuard, binOp, Op.floatCmp, flt]
theorem hu_xor {k : IntKind} {a : Int} {w : World} : (Op.unary .xor (.int k a)).run P w = .ok (.int k (k.wrap ((BitVec.ofInt k.bits (if k.signed then -1 else k.max) ^^^ BitVec.ofInt k.bits a).toNat))) w := by simp [Op.unary, Op.intBits]
end
theorem take_rep {β : Type} {zs : List β} {n c : Nat} (h : n ≤ c) : ((List.replicate c zs).flatten).take (n * zs.length) = (List.replicate n zs).flatten := by
  obtain ⟨d, rfl⟩ : ∃ d, c = n + d := ⟨c - n, by omega⟩
  rw [← List.replicate_append_replicate, List.flatten_append]
  exact List.take_left' (by rw [List.length_flatten, List.map_replicate, List.sum_replicate_nat])
/-- A row is made with room for more. -/
theorem op_makeC {P : Program} {o : Oper} {st : St} {t e sz by_ nid n cp : Nat} {z : Value} {l c : Operand} {kl kc : IntKind} {L C : Int} (ho : o.op = .makeSlice t l c) (E : ElemOK P t e sz by_ z) (hone : z.cells.toList.all (·.oneCell') = true) (hl : opA st l = .d (.lit (.int kl L))) (hc : opA st c = .d (.lit (.int kc C))) (hL : L = n) (hC : C = cp) (hnc : n ≤ cp)
    (hbytes : by_ * cp ≤ 281474976710656) (hnid : st.H.getD nid .unborn = .unborn) : OpRun P o st (locsOf [l, c] ++ [.blk nid]) (.own nid) [(nid, .arr e sz n (List.replicate n (z.cells.toList.map litD)).flatten)] := by
  refine .value fun st' hag cx m S a w hs => ?_
  have hnid' : st'.H.getD nid .unborn = .unborn := (blk1 (by simp) hag).trans hnid
  have e1 := op_lit hl (R := locsOf [l, c] ++ [.blk nid]) (fun l h => by simp [locsOf, h]) hag hs
  have e2 := op_lit hc (R := locsOf [l, c] ++ [.blk nid]) (fun l h => by simp [locsOf, h]) hag hs
  obtain ⟨i, hi, hz, h4, h5⟩ := E.parts
  have hm : cp ≤ maxLen := by
    have := Nat.le_mul_of_pos_left cp E.byp
    unfold maxLen; omega
  have hrun := run_make (P := P) w t e i z E.slice hi hz kl kc n cp (by omega) (by omega) (by rw [h5, ← Int.natCast_mul]; omega) (by unfold maxLen at hm; omega)
  simp only [Int.toNat_natCast] at hrun
  have hz1 := E.zs
  have h1 : ones z.cells.toList := fun v hv => List.all_eq_true.1 hone v hv
  have hflat : (madeCells z.cells (cp * i.size)).toList = (List.replicate cp z.cells.toList).flatten := by
    rw [h4, ← hz1]; exact made_flat _ _ (by rw [hz1]; exact E.pos)
  have hmem : ∀ v ∈ (List.replicate n z.cells.toList).flatten, v.oneCell' = true := fun v hv => by
    obtain ⟨l, hl, hv⟩ := List.mem_flatten.1 hv
    rw [(List.mem_replicate.1 hl).2] at hv
    exact h1 v hv
  have hlen : (madeCells z.cells (cp * i.size)).size = cp * sz := by rw [size_madeCells, h4]
  have hul : (List.replicate n z.cells.toList).flatten.length = n * sz := by rw [List.length_flatten, List.map_replicate, List.sum_replicate_nat, Array.length_toList, hz1]
  obtain ⟨m', k1, k2, k3, k4⟩ := hold_row (e := e) (sz := sz) (n := n) (cap := cp) (ds := (List.replicate n (z.cells.toList.map litD)).flatten) (us := (List.replicate n z.cells.toList).flatten) (cur := madeCells z.cells (cp * i.size)) hs.hold hnid'
    ⟨by rw [List.length_flatten, List.length_flatten, List.map_replicate, List.map_replicate, List.length_map], fun j x v hx hv => by
      have : (List.replicate n (z.cells.toList.map litD)).flatten = ((List.replicate n z.cells.toList).flatten).map litD := by rw [List.map_flatten, List.map_replicate]
      rw [this, List.getElem?_map, hv] at hx
      cases hx
      exact litD_rep (hmem v (List.mem_of_getElem? hv))⟩ hmem hul hnc hm hlen (by
        have := take_rep (zs := z.cells.toList) hnc
        rw [Array.length_toList, hz1] at this
        rw [hflat]; first | exact this | (rw [hul]; exact this))
  refine ⟨_, _, m', S, ?_, k1, fun _ h => h, k2, k3, k4 _⟩
  subst hL; subst hC
  simp [execOp, ho, e1, e2, hrun]
/-- A string's bytes as a row. -/
theorem lit_bytes {l : List UInt8} : A.d (.sl (toS l).size (bytesD (toS l).data.toList)) = A.d (.sl (List.length l) (flatD encU8 l)) := by
  rw [flatU8]; rfl
end Go.Proofs.Ytgocnknbiipcfaa.K
