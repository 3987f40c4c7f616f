/- Short names for the printed certificates. -/
import Derived.Test.YtdpmojhejidhiaaLj
namespace Go.Proofs.Ytdpmojhejidhiaa.K
open Go.RowKit Go.Lib
set_option linter.unusedVariables false
set_option linter.unusedSimpArgs false
abbrev W6 (n : Int) : Int := IntKind.i64.wrap n
abbrev W7 (n : Int) : Int := IntKind.u64.wrap n
abbrev A.u (n : Int) : A := .d (.lit (.int .u64 n))
abbrev Ar {α : Type} (e sz : Nat) (enc : α → List D) (l : List α) : Blk := .arr e sz (List.length l) (flatD enc l)
section
variable {P : Program} {ops : Array Oper} {K : St → List Ef → Prop} {o : Oper} {l : List Oper} {st : St} {F : List Ef}
theorem Wz (val : A) {R : List Loc} (hop : OpRun P o st R val []) (h : Walk P ops K l (st.put o.dst val []) (F ++ [⟨o.dst, val, [], gLoc ops o ++ R⟩])) (hg : gYes ops st o = true := by kernel_rfl) : Walk P ops K (o :: l) st F := Walk.yes hg hop h
theorem Wm (val : A) {x : Operand} (ho : mvOf o.op = some x) (h : Walk P ops K l (st.put o.dst val []) (F ++ [⟨o.dst, val, [], gLoc ops o ++ locOf x⟩])) (hv : opA st x = val := by kernel_rfl) (hg : gYes ops st o = true := by kernel_rfl) : Walk P ops K (o :: l) st F := Walk.yes hg ((op_move ho).cast hv) h
/-- The same, the bit being known. -/
theorem Oq {x : Operand} {b c : Bool} (hb : b = c) (ho : mvOf o.op = some x) (hv : opA st x = .d (.lit (.bool b)) := by kernel_rfl) : OpRun P o st (locOf x) (.d (.lit (.bool c))) [] := Ocs (lit_tf hb) (Omv ho hv)
theorem Ob2 {op : BinOp} {t u : TypeId} {x y : Operand} {v : Value} {val : A} (a1 a2 : Value) (ho : o.op = .binOp op t x y u) (hrun : ∀ w, (do eqGuard op t x y a1 a2; binOp op t a1 a2 : Sem Value).run P w = .ok v w)
    (e : A.d (.lit v) = val := by kernel_rfl) (hx : opA st x = .d (.lit a1) := by kernel_rfl) (hy : opA st y = .d (.lit a2) := by kernel_rfl) (h1 : v.oneCell' = true := by rfl) : OpRun P o st (locsOf [x, y]) val [] := Ocs e (op_bin ho hx hy hrun h1)
theorem Oc2 {s t : TypeId} {x : Operand} {v : Value} {val : A} (a1 : Value) (ho : o.op = .convert s t x) (hrun : ∀ w, (convert s t a1).run P w = .ok v w) (e : A.d (.lit v) = val := by kernel_rfl) (hx : opA st x = .d (.lit a1) := by kernel_rfl) (h1 : v.oneCell' = true := by rfl) :
    OpRun P o st (locOf x) val [] := Ocs e (op_convert ho hx hrun h1)
theorem op_nilCheckRef {x : Operand} {xs : List D} (ho : o.op = .nilCheck x) (hx : opA st x = .d (.ref xs)) : OpRun P o st (locOf x) (.d (.ref xs)) [] :=
  op_nilCheck ho hx fun m S w v h => .inl (by
    simp only [Rep, RepD] at h
    obtain ⟨p, rfl, _⟩ := h
    exact ⟨p, rfl⟩)
theorem Wn0 (h : K st F) : Walk P ops K [] st F := h
end
section
variable {P : Program} {K : Exit → St → Prop} {b c x y : Code} {st : St} {id : Nat} {l : List Oper} {F : List Ef} {ops : Array Oper} {q : Operand} {z : Bool}
theorem AiT (hz : z = true) (h : AWP P K x st) (hc : opA st q = .d (.lit (.bool z)) := by kernel_rfl) : AWP P K (.cond q x y) st := AWP.if_ true (Eq.trans hc (lit_tf hz)) h
theorem AiF (hz : z = false) (h : AWP P K y st) (hc : opA st q = .d (.lit (.bool z)) := by kernel_rfl) : AWP P K (.cond q x y) st := AWP.if_ false (Eq.trans hc (lit_tf hz)) h
theorem Sq (h : AWP P (Then P K c) b st) : AWP P K (.seq b c) st := AWP.seq h
theorem Tx (h : Walk P l.toArray (fun st' _ => K .normal st') l st []) : AWP P K (.region id l.toArray false) st := AWP.text h
theorem Sx (h : Walk P l.toArray (fun st' _ => Then P K c .normal st') l st []) : AWP P K (.seq (.region id l.toArray false) c) st := AWP.seq (AWP.text h)
theorem Tn (h : AWP P K b st) : Then P K b .normal st := h
theorem Nn (h : AWP P K b st) : Walk P ops (fun st' _ => Then P K b .normal st') [] st F := h
theorem Nk (ks kb : Nat) (st' : St) (h : AWP P K b st') (e : (⟨maskE ks 0 0 st.env, maskH kb 0 st.H, st.k⟩ : St) = st' := by kernel_rfl) : Walk P ops (fun st' _ => Then P K b .normal st') [] st F := Amk ks kb st' h e
theorem Tk (ks kb : Nat) (st' : St) (h : AWP P K b st') (e : (⟨maskE ks 0 0 st.env, maskH kb 0 st.H, st.k⟩ : St) = st' := by kernel_rfl) : Then P K b .normal st := Amk ks kb st' h e
theorem Rt (h : K .ret st) : AWP P K .ret st := AWP.ret h
theorem Sk (h : K .normal st) : AWP P K .skip st := AWP.skip h
theorem Bk (h : AWP P (InBlock id K) b st) : AWP P K (.block id b) st := AWP.block h
theorem Ir {id : Nat} (h : K .ret st) : InBlock id K .ret st := h
theorem Ino {id : Nat} (h : K .normal st) : InBlock id K .normal st := h
theorem Tr (h : K .ret st) : Then P K b .ret st := h
end
end Go.Proofs.Ytdpmojhejidhiaa.K
