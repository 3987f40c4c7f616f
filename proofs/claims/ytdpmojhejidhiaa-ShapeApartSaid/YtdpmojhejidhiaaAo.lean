/- The walk's rules, as a program prints them. -/
import Derived.Test.YtdpmojhejidhiaaAn
import Derived.IntWalk
namespace Go.Proofs.Ytdpmojhejidhiaa.K
open Go.RowKit Go.Lib
set_option linter.unusedVariables false
set_option linter.unusedSimpArgs false

section
variable {P : Program} {ops : Array Oper} {K : St → List Ef → Prop} {o : Oper} {l : List Oper} {st : St} {F : List Ef}
theorem Walk.nil (h : K st F) : Walk P ops K [] st F := h
theorem Walk.no (hg : gNo ops st o = true) (h : Walk P ops K l (st.put o.dst (.tup []) []) (F ++ [⟨o.dst, .tup [], [], gLoc ops o⟩])) : Walk P ops K (o :: l) st F := .inl ⟨hg, h⟩
theorem Walk.yes {R : List Loc} {val : A} {bl : List (Nat × Blk)} (hg : gYes ops st o = true) (hop : OpRun P o st R val bl) (h : Walk P ops K l (st.put o.dst val bl) (F ++ [⟨o.dst, val, bl, gLoc ops o ++ R⟩])) : Walk P ops K (o :: l) st F := .inr ⟨hg, R, val, bl, hop, h⟩
/-- The same state, written out. -/
theorem Walk.to_ {st' : St} (e : st = st') (h : Walk P ops K l st' F) : Walk P ops K l st F := e ▸ h
end
section
variable {P : Program} {K : Exit → St → Prop} {b c : Code} {st : St}
theorem Then.normal (h : AWP P K b st) : Then P K b .normal st := h
theorem Then.exit {id : Nat} (h : K (.exit id) st) : Then P K b (.exit id) st := h
theorem Then.ret (h : K .ret st) : Then P K b .ret st := h
theorem InBlock.normal {id : Nat} (h : K .normal st) : InBlock id K .normal st := h
theorem InBlock.ret {id : Nat} (h : K .ret st) : InBlock id K .ret st := h
theorem InBlock.same {id : Nat} (h : K .normal st) : InBlock id K (.exit id) st := by simp only [InBlock, Nat.beq_refl]; exact h
theorem InBlock.other {id id' : Nat} (hne : Nat.beq id' id = false) (h : K (.exit id') st) : InBlock id K (.exit id') st := by simp only [InBlock, hne]; exact h
def RoundK (P : Program) (K : Exit → St → Prop) (c : Code) (n : Nat) : Exit → St → Prop := fun e st' => match e with | .normal => Rounds P K c n st' | e => K e st'
theorem Rounds.succ {n : Nat} (h : AWP P (RoundK P K c n) c st) : Rounds P K c (n + 1) st := h
theorem RoundK.normal {n : Nat} (h : Rounds P K c n st) : RoundK P K c n .normal st := h
theorem RoundK.exit {n id : Nat} (h : K (.exit id) st) : RoundK P K c n (.exit id) st := h
theorem RoundK.ret {n : Nat} (h : K .ret st) : RoundK P K c n .ret st := h
theorem Rounds.weak {n : Nat} {st' : St} (hw : Weak st st') (h : Rounds P K c n st') : Rounds P K c n st := by
  cases n with
  | zero => exact h.elim
  | succ n => exact AWP.weak hw h
theorem Rounds.ind {α : Type} (S : α → St) (I : α → Prop) (μ : α → Nat) (step : ∀ (x : α) (n : Nat), I x → (∀ y, I y → μ y < μ x → Rounds P K c n (S y)) → AWP P (RoundK P K c n) c (S x)) : ∀ (n : Nat) (x : α), I x → μ x < n → Rounds P K c n (S x)
  | 0, x, _, h => by omega
  | n + 1, x, hI, h => Rounds.succ (step x n hI fun y hy hlt => Rounds.ind S I μ step n y hy (by omega))
/-- A loop, by what a state of it says. -/
theorem AWP.loopI {α : Type} (S : α → St) (I : α → Prop) (μ : α → Nat) (x : α) (hw : Weak st (S x)) (hI : I x)
    (step : ∀ (x : α) (n : Nat), I x → (∀ y, I y → μ y < μ x → Rounds P K c n (S y)) → AWP P (RoundK P K c n) c (S x)) : AWP P K (.loop c) st :=
  AWP.weak hw (AWP.loop (μ x + 1) (Rounds.ind S I μ step _ x hI (by omega)))
theorem AWP.to_ {st' : St} (e : st = st') (h : AWP P K c st') : AWP P K c st := e ▸ h
theorem AWP.if_ {c : Operand} {x y : Code} (bv : Bool) (hc : opA st c = .d (.lit (.bool bv))) (h : AWP P K (match bv with | true => x | false => y) st) : AWP P K (.cond c x y) st :=
  AWP.cond hc (fun e => by subst e; exact h) (fun e => by subst e; exact h)
end

/-! ### calls -/
def preOK (ids : List Nat) (H : List Blk) : List Nat → List Blk → Prop
  | [], [] => True
  | i :: is, b :: bs => b.ren ids = some (H.getD i .unborn) ∧ preOK ids H is bs
  | _, _ => False
theorem preOK_ren {ids : List Nat} {H : List Blk} : ∀ {is : List Nat} {bs : List Blk}, preOK ids H is bs → is.length = bs.length ∧ ∀ j k, is[j]? = some k → (bs.getD j .unborn).ren ids = some (H.getD k .unborn)
  | [], [], _ => ⟨rfl, fun j k h => by simp at h⟩
  | i :: is, b :: bs, h => by
    obtain ⟨h1, h2⟩ := h
    obtain ⟨h3, h4⟩ := preOK_ren h2
    refine ⟨by simp [h3], fun j k hj => ?_⟩
    cases j with
    | zero => simp only [List.getElem?_cons_zero, Option.some.injEq] at hj; subst hj; exact h1
    | succ j => exact h4 j k (by simpa using hj)
  | [], _ :: _, h => h.elim
  | _ :: _, [], h => h.elim
def renBs (ids : List Nat) : List Blk → Option (List Blk)
  | [] => some []
  | b :: bs => match b.ren ids, renBs ids bs with | some c, some cs => some (c :: cs) | _, _ => none
theorem renBs_spec {ids : List Nat} : ∀ {bs cs : List Blk}, renBs ids bs = some cs → cs.length = bs.length ∧ ∀ (j : Nat) (b : Blk), bs[j]? = some b → ∃ b', cs[j]? = some b' ∧ b.ren ids = some b'
  | [], cs, h => by simp only [renBs, Option.some.injEq] at h; subst h; exact ⟨rfl, fun j b h => by simp at h⟩
  | b :: bs, cs, h => by
    simp only [renBs] at h
    cases hb : b.ren ids with
    | none => rw [hb] at h; simp at h
    | some c =>
      cases hr : renBs ids bs with
      | none => rw [hb, hr] at h; simp at h
      | some ds =>
        rw [hb, hr] at h; simp only [Option.some.injEq] at h; subst h
        obtain ⟨h1, h2⟩ := renBs_spec hr
        refine ⟨by simp [h1], fun j x hj => ?_⟩
        cases j with
        | zero => simp only [List.getElem?_cons_zero, Option.some.injEq] at hj; subst hj; exact ⟨c, rfl, hb⟩
        | succ j => simpa using h2 j x (by simpa using hj)
def nodupB : List Nat → Bool
  | [] => true
  | x :: l => match inB l x with | true => false | false => nodupB l
theorem nodupB_spec : ∀ {l : List Nat}, nodupB l = true → l.Nodup
  | [], _ => List.nodup_nil
  | x :: l, h => by
    simp only [nodupB] at h
    cases hi : inB l x with
    | true => rw [hi] at h; cases h
    | false =>
      rw [hi] at h
      exact List.nodup_cons.2 ⟨(fun hm => by rw [inB_iff.2 hm] at hi; cases hi), nodupB_spec h⟩
def isUnborn : Blk → Bool
  | .unborn => true
  | _ => false
/-- What a call asks of the names, in one Bool. -/
def callB (H : List Blk) (post : List Blk) (pids nids vids : List Nat) : Bool :=
  nodupB (pids ++ nids) && Nat.beq (pids ++ nids).length post.length && post.all (·.notFro) && nids.all (fun i => isUnborn (H.getD i .unborn)) && vids.all (fun i => !inB (pids ++ nids) i)
section
variable {P : Program} {o : Oper} {st : St} {callee : Operand} {args : List Operand} {ats : Array TypeId} {f : FuncId} {first cap xs : List A} {pre : List Blk} {res : A} {post : List Blk} {val : A} {post' : List Blk}
theorem mkCallN (pids nids vids : List Nat) (con : GCall P f xs pre res post) (ho : o.op = .call ⟨.value callee, args.toArray, ats⟩) (hfn : opA st callee = .clo (.func f) first cap) (hin : ∀ args w, (callFunc f args).run P w = .ok (.enter f args) w)
    (hargs : ∃ zs, A.rens pids xs = some zs ∧ nnL zs (A.views st.H vids (first ++ args.map (opA st) ++ cap))) (hpre : preOK pids st.H pids pre) (hB : callB st.H post pids nids vids = true) (hpost : renBs (pids ++ nids) post = some post') (hres : res.ren (pids ++ nids) = some val) :
    CallOK P st o callee args f first cap xs pre res post pids nids vids val post' := by
  simp only [callB, Bool.and_eq_true] at hB
  obtain ⟨⟨⟨⟨h1, h2⟩, h3⟩, h4⟩, h5⟩ := hB
  obtain ⟨h6, h7⟩ := preOK_ren hpre
  obtain ⟨h8, h9⟩ := renBs_spec hpost
  refine ⟨⟨ats, ho⟩, hfn, hin, con, hargs, ⟨h6, h7⟩, nodupB_spec h1, ⟨Nat.eq_of_beq_eq_true h2, h9⟩, h8, fun b hb => List.all_eq_true.1 h3 b hb, fun id hid => ?_, fun id hid => ?_, hres⟩
  · have := List.all_eq_true.1 h4 id hid
    cases hb : st.H.getD id .unborn <;> rw [hb] at this <;> first | rfl | cases this
  · have := List.all_eq_true.1 h5 id hid
    intro hm
    rw [inB_iff.2 hm] at this; cases this
theorem mkCall (pids nids vids : List Nat) (con : GCall P f xs pre res post) (ho : o.op = .call ⟨.value callee, args.toArray, ats⟩) (hfn : opA st callee = .clo (.func f) first cap) (hin : ∀ args w, (callFunc f args).run P w = .ok (.enter f args) w)
    (hargs : A.rens pids xs = some (A.nns (A.views st.H vids (first ++ args.map (opA st) ++ cap)))) (hpre : preOK pids st.H pids pre) (hB : callB st.H post pids nids vids = true) (hpost : renBs (pids ++ nids) post = some post') (hres : res.ren (pids ++ nids) = some val) :
    CallOK P st o callee args f first cap xs pre res post pids nids vids val post' := mkCallN pids nids vids con ho hfn hin ⟨_, hargs, nnL_nns⟩ hpre hB hpost hres
/-- A call that is shown own blocks, and hands back plain things. -/
theorem use_plain (pids nids vids : List Nat) (con : GCall P f xs pre res post) (hp : res.Plain ∧ ∀ b ∈ post, b.Plain) (ho : o.op = .call ⟨.value callee, args.toArray, ats⟩) (hfn : opA st callee = .clo (.func f) first cap) (hin : ∀ args w, (callFunc f args).run P w = .ok (.enter f args) w)
    (hargs : A.rens pids xs = some (A.nns (A.views st.H vids (first ++ args.map (opA st) ++ cap)))) (hpre : preOK pids st.H pids pre) (hB : callB st.H post pids nids vids = true) (hpost : renBs (pids ++ nids) post = some post') (hres : res.ren (pids ++ nids) = some val) :
    OpRun P o st (callR callee args pids nids vids) val ((pids ++ nids).zip post') := (mkCall pids nids vids con ho hfn hin hargs hpre hB hpost hres).plain hp
theorem use_frozen (pids nids vids : List Nat) (con : GCall P f xs pre res post) (ho : o.op = .call ⟨.value callee, args.toArray, ats⟩) (hfn : opA st callee = .clo (.func f) first cap) (hin : ∀ args w, (callFunc f args).run P w = .ok (.enter f args) w)
    (hargs : A.rens pids xs = some (A.nns (A.views st.H vids (first ++ args.map (opA st) ++ cap)))) (hpre : preOK pids st.H pids pre) (hB : callB st.H post pids nids vids = true) (hpost : renBs (pids ++ nids) post = some post') (hres : res.ren (pids ++ nids) = some val) :
    OpRun P o st (callR callee args pids nids vids) val ((pids ++ nids).zip post' ++ vids.map fun id => (id, (st.H.getD id .unborn).frz)) := (mkCall pids nids vids con ho hfn hin hargs hpre hB hpost hres).frozen
end
/-- A contract whose new blocks are frozen when it comes back. -/
theorem GCall.cast {P : Program} {f : FuncId} {args args' : List A} {pre pre' : List Blk} {res res' : A} {post post' : List Blk} (h : GCall P f args pre res post) (h1 : args = args') (h2 : pre = pre') (h3 : res = res') (h4 : post = post') : GCall P f args' pre' res' post' := by
  subst h1; subst h2; subst h3; subst h4; exact h

/-! ### integers -/
section
variable {P : Program} {t : TypeId} {x y : Operand} {k k' : IntKind} {a b : Int} {w : World}
theorem hb_add : (do eqGuard .add t x y (.int k a) (.int k b); binOp .add t (.int k a) (.int k b) : Sem Value).run P w = .ok (.int k (k.wrap (a + b))) w := by simp [eqGuard, binOp, Op.intArith]
theorem hb_sub : (do eqGuard .sub t x y (.int k a) (.int k b); binOp .sub t (.int k a) (.int k b) : Sem Value).run P w = .ok (.int k (k.wrap (a - b))) w := by simp [eqGuard, binOp, Op.intArith]
theorem hb_mul : (do eqGuard .mul t x y (.int k a) (.int k b); binOp .mul t (.int k a) (.int k b) : Sem Value).run P w = .ok (.int k (k.wrap (a * b))) w := by simp [eqGuard, binOp, Op.intArith]
theorem hb_quo (hb : b ≠ 0) : (do eqGuard .quo t x y (.int k a) (.int k b); binOp .quo t (.int k a) (.int k b) : Sem Value).run P w = .ok (.int k (k.wrap (a.tdiv b))) w := by simp [eqGuard, binOp, Op.intDiv, hb]
theorem hb_rem (hb : b ≠ 0) : (do eqGuard .rem t x y (.int k a) (.int k b); binOp .rem t (.int k a) (.int k b) : Sem Value).run P w = .ok (.int k (a.tmod b)) w := by simp [eqGuard, binOp, Op.intDiv, hb]
theorem hb_shr {n : Nat} (hn : n ≤ k.bits) (hb : b = (n : Int)) : (do eqGuard .shr t x y (.int k a) (.int k' b); binOp .shr t (.int k a) (.int k' b) : Sem Value).run P w = .ok (.int k (a.fdiv (2 ^ n))) w := by
  subst hb; have h0 : ¬ ((n : Int) < 0) := by omega
  simp [eqGuard, binOp, Op.shift, Nat.min_eq_left hn, h0]
theorem hb_shl {n : Nat} (hn : n ≤ k.bits) (hb : b = (n : Int)) : (do eqGuard .shl t x y (.int k a) (.int k' b); binOp .shl t (.int k a) (.int k' b) : Sem Value).run P w = .ok (.int k (k.wrap (a * 2 ^ n))) w := by
  subst hb; have h0 : ¬ ((n : Int) < 0) := by omega
  simp [eqGuard, binOp, Op.shift, Nat.min_eq_left hn, h0]
theorem hb_and : (do eqGuard .and t x y (.int k a) (.int k b); binOp .and t (.int k a) (.int k b) : Sem Value).run P w = .ok (.int k (k.wrap ((BitVec.ofInt k.bits a &&& BitVec.ofInt k.bits b).toNat))) w := by simp [eqGuard, binOp, Op.intBits]
theorem hb_or : (do eqGuard .or t x y (.int k a) (.int k b); binOp .or t (.int k a) (.int k b) : Sem Value).run P w = .ok (.int k (k.wrap ((BitVec.ofInt k.bits a ||| BitVec.ofInt k.bits b).toNat))) w := by simp [eqGuard, binOp, Op.intBits]
theorem hb_xor : (do eqGuard .xor t x y (.int k a) (.int k b); binOp .xor t (.int k a) (.int k b) : Sem Value).run P w = .ok (.int k (k.wrap ((BitVec.ofInt k.bits a ^^^ BitVec.ofInt k.bits b).toNat))) w := by simp [eqGuard, binOp, Op.intBits]
theorem hb_lss : (do eqGuard .lss t x y (.int k a) (.int k b); binOp .lss t (.int k a) (.int k b) : Sem Value).run P w = .ok (.bool (decide (a < b))) w := by simp [eqGuard, binOp, Op.intCmp]
theorem hb_leq : (do eqGuard .leq t x y (.int k a) (.int k b); binOp .leq t (.int k a) (.int k b) : Sem Value).run P w = .ok (.bool (decide (a ≤ b))) w := by simp [eqGuard, binOp, Op.intCmp]
theorem hb_gtr : (do eqGuard .gtr t x y (.int k a) (.int k b); binOp .gtr t (.int k a) (.int k b) : Sem Value).run P w = .ok (.bool (decide (b < a))) w := by simp [eqGuard, binOp, Op.intCmp]
theorem hb_geq : (do eqGuard .geq t x y (.int k a) (.int k b); binOp .geq t (.int k a) (.int k b) : Sem Value).run P w = .ok (.bool (decide (b ≤ a))) w := by simp [eqGuard, binOp, Op.intCmp]
theorem hb_eql : (do eqGuard .eql t x y (.int k a) (.int k b); binOp .eql t (.int k a) (.int k b) : Sem Value).run P w = .ok (.bool (decide (a = b))) w := by
  simp [eqGuard, binOp, Op.intCmp]; exact Bool.eq_iff_iff.2 (by simp)
theorem hb_neq : (do eqGuard .neq t x y (.int k a) (.int k b); binOp .neq t (.int k a) (.int k b) : Sem Value).run P w = .ok (.bool (decide (a ≠ b))) w := by
  simp [eqGuard, binOp, Op.intCmp]; exact Bool.eq_iff_iff.2 (by simp)
variable {s u : ByteArray}
theorem toList_inj {s u : ByteArray} : s.toList = u.toList ↔ s = u := by
  constructor
  · intro h
    rw [ByteArray.toList_eq, ByteArray.toList_eq] at h
    cases s; cases u; simp at h; simp [h]
  · intro h; rw [h]
theorem hb_seql : (do eqGuard .eql t x y (.string s) (.string u); binOp .eql t (.string s) (.string u) : Sem Value).run P w = .ok (.bool (decide (s = u))) w := by
  simp [eqGuard, binOp, Op.stringOp]; exact Bool.eq_iff_iff.2 (by simp [toList_inj])
theorem hb_sneq : (do eqGuard .neq t x y (.string s) (.string u); binOp .neq t (.string s) (.string u) : Sem Value).run P w = .ok (.bool (decide (s ≠ u))) w := by
  simp [eqGuard, binOp, Op.stringOp]; exact Bool.eq_iff_iff.2 (by simp [toList_inj])
variable {p q : Bool}
theorem run_beq (ht : P.underlying t = some .bool) : (Op.equal t (.bool p) (.bool q)).run P w = .ok (p == q) w := by
  unfold Op.equal
  rw [show Op.maxDepth = 9999 + 1 from rfl, Op.equalIn]
  simp [run_underlying ht]
theorem hb_beql (ht : P.underlying t = some .bool) : (do eqGuard .eql t x y (.bool p) (.bool q); binOp .eql t (.bool p) (.bool q) : Sem Value).run P w = .ok (.bool (decide (p = q))) w := by
  have : (p == q) = decide (p = q) := by cases p <;> cases q <;> rfl
  simp only [eqGuard, binOp, Sem.run_bind, run_beq ht, this]
  rfl
theorem hb_bneq (ht : P.underlying t = some .bool) : (do eqGuard .neq t x y (.bool p) (.bool q); binOp .neq t (.bool p) (.bool q) : Sem Value).run P w = .ok (.bool (decide (p ≠ q))) w := by
  have : (!(p == q)) = decide (p ≠ q) := by cases p <;> cases q <;> rfl
  simp only [eqGuard, binOp, Sem.run_bind, run_beq ht, Result.andThen_ok, ← this]
  rfl
theorem hu_not : (Op.unary .not (.bool p)).run P w = .ok (.bool !p) w := rfl
theorem hu_neg : (Op.unary .neg (.int k a)).run P w = .ok (.int k (k.wrap (0 - a))) w := rfl
end
theorem lit_T {p : Prop} [Decidable p] (h : p) : A.d (.lit (.bool (decide p))) = .d (.lit (.bool true)) := by simp [h]
theorem lit_F {p : Prop} [Decidable p] (h : ¬ p) : A.d (.lit (.bool (decide p))) = .d (.lit (.bool false)) := by simp [h]
theorem lit_int {k : IntKind} {a b : Int} (h : a = b) : A.d (.lit (.int k a)) = .d (.lit (.int k b)) := by rw [h]
theorem lit_i64 {x y : Int} (h : x = y) (h1 : -9223372036854775808 ≤ y) (h2 : y ≤ 9223372036854775807) : A.d (.lit (.int .i64 (IntKind.i64.wrap x))) = .d (.lit (.int .i64 y)) := by
  subst h; rw [IntWalk.i64_in _ ⟨h1, h2⟩]
theorem ren_int {ids : List Nat} {k : IntKind} {a b : Int} (h : a = b) : (A.d (.lit (.int k a))).ren ids = some (.d (.lit (.int k b))) := by rw [h]; rfl
theorem ren_eq {ids : List Nat} {x y : D} (h : x = y) : (A.d x).ren ids = some (.d y) := by rw [h]; rfl
end Go.Proofs.Ytdpmojhejidhiaa.K
