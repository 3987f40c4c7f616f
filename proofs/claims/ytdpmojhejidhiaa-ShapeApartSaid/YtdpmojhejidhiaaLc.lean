/- Short steps for lift.py's proofs: what an operation does is computed, not printed. -/
import Derived.Test.YtdpmojhejidhiaaLb
namespace Go.Proofs.Ytdpmojhejidhiaa.K
open Go.RowKit Go.Lib
set_option linter.unusedVariables false
set_option linter.unusedSimpArgs false

/-- Unknown slots. -/
def tp : Nat → List A → List A
  | 0, l => l
  | n + 1, l => .top :: tp n l
/-- Empty slots. -/
def tu : Nat → List A → List A
  | 0, l => l
  | n + 1, l => .tup [] :: tu n l
section
variable {P : Program} {ops : Array Oper} {K : St → List Ef → Prop} {o : Oper} {l : List Oper} {st : St} {F : List Ef}
theorem Wy (val : A) (bl : List (Nat × Blk)) {R : List Loc} (hop : OpRun P o st R val bl) (h : Walk P ops K l (st.put o.dst val bl) (F ++ [⟨o.dst, val, bl, gLoc ops o ++ R⟩])) (hg : gYes ops st o = true := by kernel_rfl) : Walk P ops K (o :: l) st F := Walk.yes hg hop h
theorem Wn (h : Walk P ops K l (st.put o.dst (.tup []) []) (F ++ [⟨o.dst, .tup [], [], gLoc ops o⟩])) (hg : gNo ops st o = true := by kernel_rfl) : Walk P ops K (o :: l) st F := Walk.no hg h
end
section
variable {P : Program} {K : Exit → St → Prop} {c : Code} {st : St} {id : Nat} {l : List Oper}
theorem Adr (h : Walk P l.toArray (fun st' F => chkF l.toArray F = true ∧ K .normal st') l st []) (hm : P.follows .mixedOrders = true := by kernel_rfl) : AWP P K (.region id l.toArray true) st := AWP.drawn hm h
theorem Ato (st' : St) (h : AWP P K c st') (e : st = st' := by kernel_rfl) : AWP P K c st := AWP.to_ e h
theorem Rto {n : Nat} (st' : St) (h : Rounds P K c n st') (e : st = st' := by kernel_rfl) : Rounds P K c n st := Rounds.to_ e h
theorem Wdr {ops : Array Oper} {F : List Ef} (h : K .normal st) (hc : chkF ops F = true := by kernel_rfl) : Walk P ops (fun st' F => chkF ops F = true ∧ K .normal st') [] st F := ⟨hc, h⟩
end
/-! ### what is dead is forgotten -/
def maskE (ks nb : Nat) : Nat → List A → List A
  | _, [] => []
  | i, x :: l => (match ks.testBit i with | true => (match nb.testBit i with | true => x.nn | false => x) | false => .top) :: maskE ks nb (i + 1) l
def maskH (kb : Nat) : Nat → List Blk → List Blk
  | _, [] => []
  | i, b :: l => (match kb.testBit i, isLive b with | false, true => .gone | _, _ => b) :: maskH kb (i + 1) l
theorem maskE_reps {m : Mp} {S : Nat → Prop} {w : World} {ks nb : Nat} : ∀ {xs : List A} {i : Nat} {vs : List Value}, Reps m S w xs vs → Reps m S w (maskE ks nb i xs) vs
  | [], _, vs, h => by simpa only [maskE, Reps] using h
  | x :: xs, i, vs, h => by
    simp only [Reps] at h
    obtain ⟨v, r, rfl, h1, h2⟩ := h
    simp only [maskE, Reps]
    refine ⟨v, r, rfl, ?_, maskE_reps h2⟩
    split
    · split
      · exact Rep.nn _ _ h1
      · exact h1
    · simp only [Rep]
theorem maskH_get {kb : Nat} : ∀ (l : List Blk) (i j : Nat), (maskH kb i l).getD j .unborn = (match kb.testBit (i + j), isLive (l.getD j .unborn) with | false, true => .gone | _, _ => l.getD j .unborn)
  | [], i, j => by simp only [maskH, List.getD_nil, isLive]; split <;> simp_all
  | b :: l, i, 0 => by simp only [maskH, List.getD_cons_zero, Nat.add_zero]
  | b :: l, i, j + 1 => by
    simp only [maskH, List.getD_cons_succ]
    rw [maskH_get l (i + 1) j, show i + 1 + j = i + (j + 1) by omega]
theorem Weak.mask {st : St} (ks kb : Nat) : Weak st ⟨maskE ks 0 0 st.env, maskH kb 0 st.H, st.k⟩ := by
  intro cx m S a w hs
  have h := hs.hold
  let T : Nat → Bool := fun i => !kb.testBit i && isLive (st.H.getD i .unborn)
  let m' : Mp := fun i => if T i then some .gone else m i
  have hT : ∀ i, T i = true → ∃ p, m i = some p := fun i hi => by
    have hok := h.ok i
    have hb : isLive (st.H.getD i .unborn) = true := by simp only [T, Bool.and_eq_true] at hi; exact hi.2
    cases hx : st.H.getD i .unborn with
    | unborn => rw [hx] at hb; cases hb
    | gone => rw [hx] at hb; cases hb
    | box xs => rw [hx] at hok; obtain ⟨b, cells, T, h1, _⟩ := hok; exact ⟨_, h1⟩
    | arr e sz n xs => rw [hx] at hok; obtain ⟨v, h1, _⟩ := hok; exact ⟨_, h1⟩
    | fro e sz n xs => rw [hx] at hok; obtain ⟨v, h1, _⟩ := hok; exact ⟨_, h1⟩
  have hLe : Le m m' := fun k q hq => by
    by_cases e1 : T k = true
    · right; simp [m', e1]
    · left; simpa [m', e1] using hq
  have blkM : ∀ {id p b}, m' id = some p → p.blk = some b → m id = some p := fun {id p b} hp hb => by
    by_cases e1 : T id = true
    · simp only [m', e1, if_true, Option.some.injEq] at hp; subst hp; cases hb
    · simpa [m', e1] using hp
  refine ⟨m', S, ⟨⟨h.os, h.tape, h.output, h.size, h.old, h.s0, h.s, fun id p b hp hb => h.pl id p b (blkM hp hb) hb, fun id id' p p' b hd hp hp' hb hb' => h.apart id id' p p' b hd (blkM hp hb) (blkM hp' hb') hb hb', fun i => ?_, h.le.trans hLe⟩,
    maskE_reps (Reps.mono hLe (fun _ h => h) (Keeps.refl S w) _ _ hs.env), hs.df, hs.pre⟩⟩
  rw [maskH_get, Nat.zero_add]
  by_cases e1 : T i = true
  · have e2 := e1
    simp only [T, Bool.and_eq_true, Bool.not_eq_true'] at e2
    rw [e2.1, e2.2]
    show m' i = some .gone
    simp [m', e1]
  · have : (match kb.testBit i, isLive (st.H.getD i .unborn) with | false, true => Blk.gone | _, _ => st.H.getD i .unborn) = st.H.getD i .unborn := by
      split
      · rename_i q1 q2; exact absurd (show (!kb.testBit i && isLive (st.H.getD i .unborn)) = true by rw [q1, q2]; rfl) e1
      · rfl
    rw [this]
    exact (h.ok i).mono (by simp [m', e1]) hLe (fun _ h => h) (Keeps.refl S w) fun p g _ _ => ⟨rfl, fun h => h⟩
section
variable {P : Program} {K : Exit → St → Prop} {c : Code} {st : St}
/-- Dead slots and blocks are forgotten; the state is printed. -/
theorem Amk (ks kb : Nat) (st' : St) (h : AWP P K c st') (e : (⟨maskE ks 0 0 st.env, maskH kb 0 st.H, st.k⟩ : St) = st' := by kernel_rfl) : AWP P K c st := AWP.weak (Weak.mask ks kb) (AWP.to_ e h)
theorem Rmk {n : Nat} (ks kb : Nat) (st' : St) (h : Rounds P K c n st') (e : (⟨maskE ks 0 0 st.env, maskH kb 0 st.H, st.k⟩ : St) = st' := by kernel_rfl) : Rounds P K c n st := Rounds.weak (Weak.mask ks kb) (Rounds.to_ e h)
theorem Afz (vids : List Nat) (st' : St) (h : AWP P K c st') (e : (⟨A.views st.H vids st.env, frzN st.H vids st.H 0, st.k⟩ : St) = st' := by kernel_rfl) : AWP P K c st := AWP.weak (Weak.frz vids) (AWP.to_ e h)
theorem Rfz {n : Nat} (vids : List Nat) (st' : St) (h : Rounds P K c n st') (e : (⟨A.views st.H vids st.env, frzN st.H vids st.H 0, st.k⟩ : St) = st' := by kernel_rfl) : Rounds P K c n st := Rounds.weak (Weak.frz vids) (Rounds.to_ e h)
end
/-- A state comes to a head: slots outside ks are forgotten, those in nb read nil as an empty slice; block j there is block ids[j] here. -/
def pickH (nb : Nat) (H : List Blk) : List Nat → List Blk
  | [] => []
  | i :: is => (match nb.testBit i, H.getD i .unborn with | true, .box xs => .box (A.nns xs) | _, b => b) :: pickH nb H is
theorem wkM_mask {ids : List Nat} {ks nb : Nat} : ∀ {xs ys : List A} {i : Nat}, A.rens ids xs = some (maskE ks nb i ys) → wkM ids xs ys
  | [], [], _, _ => trivial
  | [], y :: ys, i, h => by simp [A.rens, maskE] at h
  | x :: xs, [], i, h => by
    simp only [A.rens, maskE] at h
    split at h <;> cases h
  | x :: xs, y :: ys, i, h => by
    simp only [A.rens, maskE] at h
    split at h
    · rename_i p q h1 h2
      simp only [Option.some.injEq, List.cons.injEq] at h
      refine ⟨?_, wkM_mask (h2.trans (by rw [h.2]))⟩
      split at h
      · split at h
        · exact .inr (.inr (by rw [h1, h.1]))
        · exact .inr (.inl (by rw [h1, h.1]))
      · left
        have e := h1.trans (by rw [h.1])
        cases x with
        | top => rfl
        | d x => simp [A.ren] at e
        | agg xs => simp only [A.ren] at e; split at e <;> cases e
        | tup xs => simp only [A.ren] at e; split at e <;> cases e
        | loc a b => simp only [A.ren] at e; split at e <;> cases e
        | own a => simp only [A.ren] at e; split at e <;> cases e
        | sub a b c => simp only [A.ren] at e; split at e <;> cases e
        | clo f a b => simp only [A.ren] at e; split at e <;> cases e
        | ab p => simp [A.ren] at e
    · cases h
theorem wkM_rens {ids : List Nat} {nn : Bool} : ∀ {xs ys : List A}, A.rens ids xs = some (match nn with | true => A.nns ys | false => ys) → wkM ids xs ys
  | [], [], _ => trivial
  | [], y :: ys, h => by cases nn <;> simp [A.rens, A.nns] at h
  | x :: xs, [], h => by
    simp only [A.rens] at h
    split at h <;> cases nn <;> simp [A.nns] at h
  | x :: xs, y :: ys, h => by
    simp only [A.rens] at h
    split at h
    · rename_i p q h1 h2
      cases nn with
      | true =>
        simp only [A.nns, Option.some.injEq, List.cons.injEq] at h
        exact ⟨.inr (.inr (by rw [h1, h.1])), wkM_rens (nn := true) (by rw [h2]; simp [h.2])⟩
      | false =>
        simp only [Option.some.injEq, List.cons.injEq] at h
        exact ⟨.inr (.inl (by rw [h1, h.1])), wkM_rens (nn := false) (by rw [h2]; simp [h.2])⟩
    · cases h
theorem wkCs_pick {ids : List Nat} {nb : Nat} {H : List Blk} : ∀ {is : List Nat} {bs : List Blk}, renBs ids bs = some (pickH nb H is) → wkCs ids H is bs
  | [], [], _ => trivial
  | [], b :: bs, h => by
    simp only [renBs, pickH] at h
    split at h <;> cases h
  | i :: is, [], h => by simp [renBs, pickH] at h
  | i :: is, b :: bs, h => by
    simp only [renBs, pickH] at h
    split at h
    · rename_i p q h1 h2
      simp only [Option.some.injEq, List.cons.injEq] at h
      refine ⟨?_, wkCs_pick (h2.trans (by rw [h.2]))⟩
      split at h
      · rename_i xs q1 q2
        rw [q2]
        have e := h1.trans (by rw [h.1])
        cases b with
        | box ys =>
          simp only [Blk.ren] at e
          split at e
          · rename_i zs hz
            simp only [Option.some.injEq, Blk.box.injEq] at e
            exact wkM_rens (nn := true) (by rw [hz, e])
          · cases e
        | _ => cases e
      · have e := h1.trans (by rw [h.1])
        cases b with
        | box ys =>
          simp only [Blk.ren] at e
          split at e
          · rename_i zs hz
            simp only [Option.some.injEq] at e
            rw [← e]
            exact wkM_rens (nn := false) (by rw [hz])
          · cases e
        | unborn => exact e
        | gone => exact e
        | arr e' sz n xs => exact e
        | fro e' sz n xs => exact e
    · cases h
theorem Weak.toK {st st' : St} (ks nb hb : Nat) (ids : List Nat) (h1 : st'.k = st.k := by rfl) (h2 : nodupB ids = true := by kernel_rfl) (h3 : ids.length = st'.H.length := by rfl) (h4 : Nat.ble st.k ids.length = true := by rfl) (h5 : ids.take st.k = List.range st.k := by rfl)
    (h6 : A.rens ids st'.env = some (maskE ks nb 0 st.env) := by kernel_rfl) (h7 : renBs ids st'.H = some (pickH hb st.H ids) := by kernel_rfl) : Weak st st' :=
  Weak.toN ids h1 h2 h3 ⟨Nat.le_of_ble_eq_true h4, h5⟩ (wkCs_pick h7) (wkM_mask h6)
/-! ### operations, computed -/
def loadOf (P : Program) (H : List Blk) (t : TypeId) (y : A) : Option A := match cellsAt H y with | some (xs, off) => loadA P t xs off | none => none
def faddrOf (P : Program) (H : List Blk) (t : TypeId) (f : Nat) (y : A) : Option A := match cellsAt H y, fieldOff P t f with | some _, some k => some (addA k y) | _, _ => none
def fieldOf (P : Program) (t : TypeId) (f : Nat) : A → Option A
  | .agg xs => match P.underlying t with
    | some (.struct fs) => match fs[f]? with | some q => loadA P q.type xs q.offset | none => none
    | _ => none
  | _ => none
def extOf (i : Nat) : A → Option A
  | .tup xs => xs[i]?
  | _ => none
def storeOf (P : Program) (H : List Blk) (t : TypeId) (v : A) : A → Option (Nat × Blk)
  | .loc id off => match cellsOf v, sizeT P t, H.getD id .unborn with
    | some ys, some n, .box xs => match Nat.beq n ys.length, Nat.ble (off + ys.length) xs.length with | true, true => some (id, .box (putC xs off ys)) | _, _ => none
    | _, _, _ => none
  | _ => none
def buildOf (P : Program) (t : TypeId) (parts : List (Nat × A)) : Option A := match P.underlying t with
  | some (.struct fs) => match placesOf P fs.toList, zeroA P t with
    | some pl, some zs => match fillA pl zs parts with | some ys => some (.agg ys) | none => none
    | _, _ => none
  | _ => none
def lenOf (P : Program) (H : List Blk) (t : TypeId) (y : A) : Option Int := match P.underlying t with
  | some .string => match y with | .d (.lit (.string s)) => some (s.size : Int) | _ => none
  | some (.slice _) => match sliceAt H y with | some (_, _, n) => some (n : Int) | none => none
  | _ => none
section
variable {P : Program} {o : Oper} {st : St}
theorem Omv {x : Operand} {val : A} (ho : mvOf o.op = some x) (h : opA st x = val := by kernel_rfl) : OpRun P o st (locOf x) val [] := (op_move ho).cast h
theorem OpT {c x y : Operand} {val : A} (ho : o.op = .pick c x y) (hc : opA st c = .d (.lit (.bool true)) := by kernel_rfl) (h : opA st x = val := by kernel_rfl) : OpRun P o st (locsOf [c, x]) val [] := (op_pickT ho hc).cast h
theorem OpF {c x y : Operand} {val : A} (ho : o.op = .pick c x y) (hc : opA st c = .d (.lit (.bool false)) := by kernel_rfl) (h : opA st y = val := by kernel_rfl) : OpRun P o st (locsOf [c, y]) val [] := (op_pickF ho hc).cast h
theorem Oex {x : Operand} {i : Nat} {val : A} (ho : o.op = .extract x i) (h : extOf i (opA st x) = some val := by kernel_rfl) : OpRun P o st (locOf x) val [] := by
  cases hx : opA st x <;> rw [hx] at h <;> simp only [extOf] at h <;> try cases h
  exact op_extract ho hx h
theorem Oal {t id : Nat} {ys : List A} (ho : o.op = .alloc t) (hz : zeroA P t = some ys := by kernel_rfl) (hid : st.H.getD id .unborn = .unborn := by kernel_rfl) : OpRun P o st [.blk id] (.loc id 0) [(id, .box ys)] := op_alloc ho hz hid
theorem Obx {t id : Nat} {x : Operand} {ys : List A} (ho : o.op = .box t x) (hys : cellsOf (opA st x) = some ys := by kernel_rfl) (hid : st.H.getD id .unborn = .unborn := by kernel_rfl) : OpRun P o st (locOf x ++ [.blk id]) (.loc id 0) [(id, .box ys)] := op_box ho rfl hys hid
theorem Old {t : TypeId} {x : Operand} {z : A} (ho : o.op = .load t x) (h : loadOf P st.H t (opA st x) = some z := by kernel_rfl) : OpRun P o st (locOf x ++ locA (opA st x)) z [] := by
  unfold loadOf at h
  split at h
  · exact op_load ho rfl ‹_› h
  · cases h
theorem Ofa {t : TypeId} {x : Operand} {f : Nat} {z : A} (ho : o.op = .fieldAddr t x f) (h : faddrOf P st.H t f (opA st x) = some z := by kernel_rfl) : OpRun P o st (locOf x ++ locA (opA st x)) z [] := by
  unfold faddrOf at h
  split at h
  · rename_i h1 h2
    cases h
    exact op_faddr ho rfl (by rw [h1]; rfl) h2
  · cases h
theorem Ofd {t : TypeId} {x : Operand} {f : Nat} {z : A} (ho : o.op = .field t x f) (h : fieldOf P t f (opA st x) = some z := by kernel_rfl) : OpRun P o st (locOf x) z [] := by
  cases hx : opA st x <;> rw [hx] at h <;> simp only [fieldOf] at h <;> try cases h
  split at h
  · rename_i fs hu
    split at h
    · rename_i q hq; exact op_field ho hu hq hx h
    · cases h
  · cases h
theorem Ost {t : TypeId} {x y : Operand} {id : Nat} {b : Blk} (ho : o.op = .store t x y) (h : storeOf P st.H t (opA st y) (opA st x) = some (id, b) := by kernel_rfl) : OpRun P o st (locsOf [x, y] ++ [.blk id]) (.tup []) [(id, b)] := by
  cases hx : opA st x <;> rw [hx] at h <;> simp only [storeOf] at h <;> try cases h
  split at h
  · rename_i ys n xs h1 h2 h3
    split at h
    · rename_i h4 h5
      cases h
      exact op_store ho hx h3 rfl h1 (by rw [h2, Nat.eq_of_beq_eq_true h4]) (Nat.le_of_ble_eq_true h5)
    · cases h
  · cases h
theorem Obd {t : TypeId} {parts : List (Nat × Operand)} {z : A} (ho : o.op = .build t parts.toArray) (h : buildOf P t (partsA st parts) = some z := by kernel_rfl) : OpRun P o st (partLocs parts) z [] := by
  unfold buildOf at h
  split at h
  · rename_i fs hu
    split at h
    · rename_i pl zs h1 h2
      split at h
      · rename_i ys h3; cases h; exact op_build ho hu h1 h2 h3
      · cases h
    · cases h
  · cases h
theorem Oln {t : TypeId} {x : Operand} {v : Int} (ho : o.op = .call ⟨.builtin .len, #[x], #[t]⟩) (h : lenOf P st.H t (opA st x) = some v := by kernel_rfl) : OpRun P o st (locOf x ++ locA (opA st x)) (.d (.lit (.int .i64 v))) [] := by
  unfold lenOf at h
  split at h
  · rename_i hu
    split at h
    · rename_i s hx
      cases h
      have := op_len_str (st := st) ho hu hx
      rw [hx]
      simpa [locA] using this
    · cases h
  · rename_i e hu
    split at h
    · rename_i ds off n hs
      cases h
      exact op_len ho hu rfl hs
    · cases h
  · cases h
theorem Obn {op : BinOp} {t u : TypeId} {x y : Operand} {a1 a2 v : Value} (ho : o.op = .binOp op t x y u) (hrun : ∀ w, (do eqGuard op t x y a1 a2; binOp op t a1 a2 : Sem Value).run P w = .ok v w)
    (hx : opA st x = .d (.lit a1) := by kernel_rfl) (hy : opA st y = .d (.lit a2) := by kernel_rfl) (h1 : v.oneCell' = true := by rfl) : OpRun P o st (locsOf [x, y]) (.d (.lit v)) [] := op_bin ho hx hy hrun h1
theorem Ocv {s t : TypeId} {x : Operand} {a1 v : Value} (ho : o.op = .convert s t x) (hrun : ∀ w, (convert s t a1).run P w = .ok v w) (hx : opA st x = .d (.lit a1) := by kernel_rfl) (h1 : v.oneCell' = true := by rfl) : OpRun P o st (locOf x) (.d (.lit v)) [] := op_convert ho hx hrun h1
def callArgs (H : List Blk) (f : FuncId) (vids : List Nat) (args : List A) : A → Option (List A)
  | .clo (.func g) first cap => match Nat.beq g f with | true => some (A.views H vids (first ++ args ++ cap)) | false => none
  | _ => none
/-- Arguments as a contract has them: nil as nil, or as an empty slice. -/
def rawB (rw : Nat) : Nat → List A → List A
  | _, [] => []
  | i, x :: l => (match rw.testBit i with | true => x | false => x.nn) :: rawB rw (i + 1) l
theorem rawB_nnL {rw : Nat} : ∀ {xs : List A} {i : Nat}, nnL (rawB rw i xs) xs
  | [], _ => trivial
  | x :: l, i => ⟨by cases rw.testBit i <;> simp, rawB_nnL⟩
def frzIf (H : List Blk) (vids : List Nat) : Bool → List (Nat × Blk)
  | true => vids.map fun id => (id, (H.getD id .unborn).frz)
  | false => []
def callBl (H : List Blk) (pids nids vids : List Nat) (fz : Bool) (post : List Blk) : Option (List (Nat × Blk)) := match renBs (pids ++ nids) post with
  | some p => some ((pids ++ nids).zip p ++ frzIf H vids fz)
  | none => none
variable {callee : Operand} {args : List Operand} {ats : Array TypeId} {f : FuncId} {xs ys : List A} {pre : List Blk} {res : A} {post : List Blk} {val : A} {bl : List (Nat × Blk)}
theorem mkCall2 (pids nids vids : List Nat) (rw : Nat) (fz : Bool) (con : GCall P f xs pre res post) (hin : ∀ args w, (callFunc f args).run P w = .ok (.enter f args) w) (ho : o.op = .call ⟨.value callee, args.toArray, ats⟩)
    (hy : callArgs st.H f vids (args.map (opA st)) (opA st callee) = some ys) (hargs : A.rens pids xs = some (rawB rw 0 ys)) (hpre : preOK pids st.H pids pre) (hB : callB st.H post pids nids vids = true) (hbl : callBl st.H pids nids vids fz post = some bl) (hres : res.ren (pids ++ nids) = some val) :
    ∃ first cap post', CallOK P st o callee args f first cap xs pre res post pids nids vids val post' ∧ bl = (pids ++ nids).zip post' ++ frzIf st.H vids fz := by
  unfold callBl at hbl
  split at hbl
  · rename_i p hp
    cases hbl
    unfold callArgs at hy
    split at hy
    · rename_i g first cap hc
      split at hy
      · rename_i hg
        cases hy
        have := Nat.eq_of_beq_eq_true hg
        subst this
        exact ⟨first, cap, p, mkCallN pids nids vids con ho hc hin ⟨_, hargs, rawB_nnL⟩ hpre hB hp hres, rfl⟩
      · cases hy
    · cases hy
  · cases hbl
theorem Ocp (pids nids vids : List Nat) (rw : Nat) (con : GCall P f xs pre res post) (hp : res.Plain ∧ ∀ b ∈ post, b.Plain) (hin : ∀ args w, (callFunc f args).run P w = .ok (.enter f args) w) (ho : o.op = .call ⟨.value callee, args.toArray, ats⟩) (hpre : preOK pids st.H pids pre)
    (hargs : (callArgs st.H f vids (args.map (opA st)) (opA st callee)).map (rawB rw 0) = A.rens pids xs := by kernel_rfl) (hs : (callArgs st.H f vids (args.map (opA st)) (opA st callee)).isSome = true := by kernel_rfl)
    (hB : callB st.H post pids nids vids = true := by kernel_rfl) (hbl : callBl st.H pids nids vids false post = some bl := by kernel_rfl) (hres : res.ren (pids ++ nids) = some val := by kernel_rfl) : OpRun P o st (callR callee args pids nids vids) val bl := by
  obtain ⟨ys, hy⟩ := Option.isSome_iff_exists.1 hs
  rw [hy, Option.map_some] at hargs
  obtain ⟨first, cap, post', h, rfl⟩ := mkCall2 pids nids vids rw false con hin ho hy hargs.symm hpre hB hbl hres
  rw [frzIf, List.append_nil]
  exact h.plain hp
theorem Ocf (pids nids vids : List Nat) (rw : Nat) (con : GCall P f xs pre res post) (hin : ∀ args w, (callFunc f args).run P w = .ok (.enter f args) w) (ho : o.op = .call ⟨.value callee, args.toArray, ats⟩) (hpre : preOK pids st.H pids pre)
    (hargs : (callArgs st.H f vids (args.map (opA st)) (opA st callee)).map (rawB rw 0) = A.rens pids xs := by kernel_rfl) (hs : (callArgs st.H f vids (args.map (opA st)) (opA st callee)).isSome = true := by kernel_rfl)
    (hB : callB st.H post pids nids vids = true := by kernel_rfl) (hbl : callBl st.H pids nids vids true post = some bl := by kernel_rfl) (hres : res.ren (pids ++ nids) = some val := by kernel_rfl) : OpRun P o st (callR callee args pids nids vids) val bl := by
  obtain ⟨ys, hy⟩ := Option.isSome_iff_exists.1 hs
  rw [hy, Option.map_some] at hargs
  obtain ⟨first, cap, post', h, rfl⟩ := mkCall2 pids nids vids rw true con hin ho hy hargs.symm hpre hB hbl hres
  exact h.frozen
end
section
variable {P : Program} {rs : List ResultVar} {k : Nat} {res : A} {post : List Blk} {st : St}
def resOne (P : Program) (st : St) (rs : List ResultVar) : Option A := match resList P st rs with | some xs => some (one xs).nn | none => none
def retB (k : Nat) (ids : List Nat) : Bool := nodupB ids && Nat.ble k ids.length && decide (ids.take k = List.range k)
theorem ret_2 (ids : List Nat) (h2 : resOne P st rs = res.ren ids) (h2' : (resOne P st rs).isSome = true) (h3 : renBs ids post = some (pickH 0 st.H ids)) (h5 : retB k ids = true) : RetK P rs k res post .ret st ∧ RetK P rs k res post .normal st := by
  unfold resOne at h2 h2'
  split at h2
  · rename_i xs hx
    simp only [retB, Bool.and_eq_true, decide_eq_true_eq] at h5
    refine ret_any ids xs hx h2.symm ?_ h5.1.1 ⟨Nat.le_of_ble_eq_true h5.1.2, h5.2⟩
    clear h2 h2' hx h5
    have : ∀ (is : List Nat) (bs : List Blk), renBs ids bs = some (pickH 0 st.H is) → preOK ids st.H is bs := by
      intro is
      induction is with
      | nil =>
        intro bs h
        cases bs with
        | nil => trivial
        | cons b bs => simp only [renBs, pickH] at h; split at h <;> cases h
      | cons i is ih =>
        intro bs h
        cases bs with
        | nil => simp [renBs, pickH] at h
        | cons b bs =>
          simp only [renBs, pickH] at h
          split at h
          · rename_i p q h1 h2
            simp only [Option.some.injEq, List.cons.injEq, Nat.zero_testBit] at h
            exact ⟨by rw [h1, h.1], ih bs (by rw [h2, h.2])⟩
          · cases h
    exact this ids post h3
  · rename_i hx; rw [hx] at h2'; cases h2'
theorem ret_i (ids : List Nat) (h2 : resOne P st rs = res.ren ids := by kernel_rfl) (h2' : (resOne P st rs).isSome = true := by kernel_rfl) (h3 : renBs ids post = some (pickH 0 st.H ids) := by kernel_rfl) (h5 : retB k ids = true := by kernel_rfl) : RetK P rs k res post .ret st := (ret_2 ids h2 h2' h3 h5).1
theorem ret_n (ids : List Nat) (h2 : resOne P st rs = res.ren ids := by kernel_rfl) (h2' : (resOne P st rs).isSome = true := by kernel_rfl) (h3 : renBs ids post = some (pickH 0 st.H ids) := by kernel_rfl) (h5 : retB k ids = true := by kernel_rfl) : RetK P rs k res post .normal st := (ret_2 ids h2 h2' h3 h5).2
end
section
variable {P : Program} {o : Oper} {st : St}
theorem Ocs {R : List Loc} {val val' : A} {bl : List (Nat × Blk)} (e : val = val') (h : OpRun P o st R val bl) : OpRun P o st R val' bl := h.cast e
theorem OcB {R : List Loc} {val : A} {bl bl' : List (Nat × Blk)} (h : OpRun P o st R val bl) (e : bl = bl') : OpRun P o st R val bl' := h.castB e
theorem Ofz (vids : List Nat) (val : A) (bl : List (Nat × Blk)) {R : List Loc} {val' : A} {bl' : List (Nat × Blk)} (h : OpRun P o st R val bl) (hv : vids.all (fun i => (lastB bl i).isSome) = true := by kernel_rfl) (e1 : val.view (putB [] bl) vids = val' := by kernel_rfl)
    (e2 : (bl ++ vids.map fun id => (id, ((putB [] bl).getD id .unborn).frz)) = bl' := by kernel_rfl) : OpRun P o st R val' bl' := ((OpRun.frzNew vids h hv).cast e1).castB e2
variable {α : Type} {enc : α → List D} {l r a : List α} {i sz k : Nat} {x0 : α} {t : TypeId} {x : Operand}
/-- An element of a frozen slice, a row's: a struct or one cell; or a part of it. -/
theorem Lf {zs : List A} (ho : o.op = .load t x) (hl : ∀ a, (enc a).length = sz) (hx : l[i]? = some x0) (hy : opA st x = .d (.ref (List.drop (i * sz) (flatD enc l))) := by kernel_rfl) (hk : aggSize P t = some zs.length := by kernel_rfl)
    (hz : ((enc x0).take zs.length).map A.d = zs := by kernel_rfl) (hle : Nat.ble zs.length sz = true := by rfl) : OpRun P o st (locOf x ++ locA (.d (.ref (List.drop (i * sz) (flatD enc l))))) (.agg zs) [] :=
  op_load_of zs ho hy rfl hk (flat_ref_le hl hx (Nat.le_of_ble_eq_true hle)) (flat_ref hl hx hz)
theorem Lfk {zs : List A} (k : Nat) (ho : o.op = .load t x) (hl : ∀ a, (enc a).length = sz) (hx : l[i]? = some x0) (hy : opA st x = .d (.ref (List.drop k (List.drop (i * sz) (flatD enc l)))) := by kernel_rfl) (hk : aggSize P t = some zs.length := by kernel_rfl)
    (hz : (((enc x0).drop k).take zs.length).map A.d = zs := by kernel_rfl) (hle : Nat.ble (k + zs.length) sz = true := by rfl) : OpRun P o st (locOf x ++ locA (.d (.ref (List.drop k (List.drop (i * sz) (flatD enc l)))))) (.agg zs) [] :=
  op_load_of zs ho hy rfl hk (flat_refk_le hl hx (Nat.le_of_ble_eq_true hle)) (flat_refk hl hx hz)
theorem Lf1 {z : D} (ho : o.op = .load t x) (hl : ∀ a, (enc a).length = sz) (hx : l[i]? = some x0) (hy : opA st x = .d (.ref (List.drop (i * sz) (flatD enc l))) := by kernel_rfl) (hk : scalarT P t = true := by kernel_rfl)
    (hz : (enc x0)[0]? = some z := by kernel_rfl) : OpRun P o st (locOf x ++ locA (.d (.ref (List.drop (i * sz) (flatD enc l))))) (.d z) [] :=
  op_load_at _ ho hy rfl hk (flat_ref_at hl hx hz)
theorem Lfk1 {z : D} (k : Nat) (ho : o.op = .load t x) (hl : ∀ a, (enc a).length = sz) (hx : l[i]? = some x0) (hy : opA st x = .d (.ref (List.drop k (List.drop (i * sz) (flatD enc l)))) := by kernel_rfl) (hk : scalarT P t = true := by kernel_rfl)
    (hz : (enc x0)[k]? = some z := by kernel_rfl) : OpRun P o st (locOf x ++ locA (.d (.ref (List.drop k (List.drop (i * sz) (flatD enc l)))))) (.d z) [] :=
  op_load_at _ ho hy rfl hk (flat_refk_at hl hx hz)
def rowC (H : List Blk) (y : A) : Option (Nat × Nat) := match y with | .loc id off => some (id, off) | _ => none
theorem Lr {zs : List A} (ho : o.op = .load t x) (hl : ∀ a, (enc a).length = sz) (hx : l[i]? = some x0) (hy : cellsAt st.H (opA st x) = some ((flatD enc l).map A.d, i * sz) := by kernel_rfl) (hk : aggSize P t = some zs.length := by kernel_rfl)
    (hz : ((enc x0).take zs.length).map A.d = zs := by kernel_rfl) (hle : Nat.ble zs.length sz = true := by rfl) : OpRun P o st (locOf x ++ locA (opA st x)) (.agg zs) [] :=
  op_load_of zs ho rfl hy hk (flat_row_le hl hx (Nat.le_of_ble_eq_true hle)) (flat_row hl hx hz)
theorem Lrk {zs : List A} (k : Nat) (ho : o.op = .load t x) (hl : ∀ a, (enc a).length = sz) (hx : l[i]? = some x0) (hy : cellsAt st.H (opA st x) = some ((flatD enc l).map A.d, i * sz + k) := by kernel_rfl) (hk : aggSize P t = some zs.length := by kernel_rfl)
    (hz : (((enc x0).drop k).take zs.length).map A.d = zs := by kernel_rfl) (hle : Nat.ble (k + zs.length) sz = true := by rfl) : OpRun P o st (locOf x ++ locA (opA st x)) (.agg zs) [] :=
  op_load_of zs ho rfl hy hk (flat_rowk_le hl hx (Nat.le_of_ble_eq_true hle)) (flat_rowk hl hx hz)
theorem Lr1 {z : D} (ho : o.op = .load t x) (hl : ∀ a, (enc a).length = sz) (hx : l[i]? = some x0) (hy : cellsAt st.H (opA st x) = some ((flatD enc l).map A.d, i * sz) := by kernel_rfl) (hk : scalarT P t = true := by kernel_rfl)
    (hz : (enc x0)[0]? = some z := by kernel_rfl) : OpRun P o st (locOf x ++ locA (opA st x)) (.d z) [] :=
  op_load_at _ ho rfl hy hk (flat_row_at hl hx hz)
theorem Lrk1 {z : D} (k : Nat) (ho : o.op = .load t x) (hl : ∀ a, (enc a).length = sz) (hx : l[i]? = some x0) (hy : cellsAt st.H (opA st x) = some ((flatD enc l).map A.d, i * sz + k) := by kernel_rfl) (hk : scalarT P t = true := by kernel_rfl)
    (hz : (enc x0)[k]? = some z := by kernel_rfl) : OpRun P o st (locOf x ++ locA (opA st x)) (.d z) [] :=
  op_load_at _ ho rfl hy hk (flat_rowk_at hl hx hz)
def intOf : A → Option Int
  | .d (.lit (.int _ n)) => some n
  | _ => none
theorem intOf_spec {y : A} {n : Int} (h : intOf y = some n) : ∃ k, y = .d (.lit (.int k n)) := by
  unfold intOf at h
  split at h
  · cases h; exact ⟨_, rfl⟩
  · cases h
/-- An element's address. -/
theorem Oia {ix : Operand} {iv : Int} {val : A} (ho : o.op = .indexAddr t x ix) (hl : ∀ a, (enc a).length = sz) (hi : iv = ((Int.toNat iv : Nat) : Int)) (hg : l[Int.toNat iv]? = some x0)
    (hy : sliceAt st.H (opA st x) = some (flatD enc l, 0, l.length) := by kernel_rfl) (he : (sliceElem P t).map Prod.snd = some sz := by kernel_rfl) (hix : intOf (opA st ix) = some iv := by kernel_rfl) (hv : elemA (Int.toNat iv * sz) (opA st x) = val := by kernel_rfl) :
    OpRun P o st (locsOf [x, ix] ++ locA (opA st x)) val [] := by
  obtain ⟨k, hk⟩ := intOf_spec hix
  cases hs : sliceElem P t with
  | none => rw [hs] at he; cases he
  | some q =>
    obtain ⟨e, s⟩ := q
    rw [hs] at he
    cases he
    exact (op_iaddr ho rfl hy hs hk hi (getlt hg)).cast hv
theorem Oap {e by_ id nid : Nat} {z : Value} {s : Operand} (ho : o.op = .call ⟨.builtin .append, #[s, x], #[t, t]⟩) (E : ElemOK P t e sz by_ z) (hl : ∀ a, (enc a).length = sz) (he : a = l ++ r) (hle : l.length + r.length ≤ 1000000000) (hb : Nat.ble by_ 140000 = true := by rfl)
    (hs0 : opA st s = .own id := by kernel_rfl) (hblk : st.H.getD id .unborn = .arr e sz l.length (flatD enc l) := by kernel_rfl) (hy : sliceAt st.H (opA st x) = some (flatD enc r, 0, r.length) := by kernel_rfl) (hnid : st.H.getD nid .unborn = .unborn := by kernel_rfl) (hne : Nat.beq id nid = false := by rfl) :
    OpRun P o st (locsOf [s, x] ++ (locA (opA st x) ++ [.blk id, .blk nid])) (.own nid) [(id, .gone), (nid, .arr e sz a.length (flatD enc a))] :=
  (op_append ho E hs0 hblk rfl hy (flat_all hl) (flatD_length hl _) (app_bytes hle (Nat.le_of_ble_eq_true hb)) hnid (Nat.ne_of_beq_eq_false hne)).castB (bl_app (by rw [he, List.length_append]) (by rw [he, flatD_append]))
theorem Oan {e by_ nid : Nat} {z : Value} {s : Operand} (ho : o.op = .call ⟨.builtin .append, #[s, x], #[t, t]⟩) (E : ElemOK P t e sz by_ z) (hl : ∀ a, (enc a).length = sz) (he : a = [] ++ r) (hle : ([] : List α).length + r.length ≤ 1000000000) (hb : Nat.ble by_ 140000 = true := by rfl)
    (hs0 : opA st s = .d .nil := by kernel_rfl) (hy : sliceAt st.H (opA st x) = some (flatD enc r, 0, r.length) := by kernel_rfl) (hnid : st.H.getD nid .unborn = .unborn := by kernel_rfl) :
    OpRun P o st (locsOf [s, x] ++ (locA (opA st x) ++ [.blk nid])) (.own nid) [(nid, .arr e sz a.length (flatD enc a))] :=
  (op_appendNil ho E hs0 rfl hy (flat_all hl) (flatD_length hl _) (app_bytesN hle (Nat.le_of_ble_eq_true hb)) hnid).castB (bl_one (by rw [he]; rfl) (by rw [he]; rfl))
def buildSliceOf (P : Program) (t : TypeId) (len : Nat) (parts : List (Nat × A)) : Option Blk := match sliceElem P t with
  | some (e, sz) => match zeroA P e with
    | some zs => match Nat.beq zs.length sz, Nat.blt 0 sz, Nat.ble (len * sz) 16777216, fillA ((List.range len).map fun i => (i * sz, sz)) (List.replicate (len * sz) .top) parts with
      | true, true, true, some ys => match toDs ys, Nat.beq ys.length (len * sz) with
        | some ds, true => some (.arr e sz len ds)
        | _, _ => none
      | _, _, _, _ => none
    | none => none
  | none => none
theorem Obs {len id : Nat} {parts : List (Nat × Operand)} {b : Blk} (ho : o.op = .buildSlice t len parts.toArray) (h : buildSliceOf P t len (partsA st parts) = some b := by kernel_rfl) (hid : st.H.getD id .unborn = .unborn := by kernel_rfl) :
    OpRun P o st (partLocs parts ++ [.blk id]) (.own id) [(id, b)] := by
  unfold buildSliceOf at h
  split at h
  · rename_i e sz he
    split at h
    · rename_i zs hz
      split at h
      · rename_i ys h1 h2 h3 h4
        split at h
        · rename_i ds h5 h6
          cases h
          exact op_buildSlice ho he hz (Nat.eq_of_beq_eq_true h1) (Nat.le_of_ble_eq_true h2) h3 h4 h5 (Nat.eq_of_beq_eq_true h6) hid
        · cases h
      · cases h
    · cases h
  · cases h
/-- An element of an own row is written, or a part of it. -/
def dsOf (v : A) : Option (List D) := match cellsOf v with
  | some ys => toDs ys
  | none => none
theorem toDs_len : ∀ {ys : List A} {ds : List D}, toDs ys = some ds → ds.length = ys.length
  | [], ds, h => by simp only [toDs, Option.some.injEq] at h; subst h; rfl
  | .d x :: ys, ds, h => by
    simp only [toDs] at h
    split at h
    · cases h; simp [toDs_len ‹_›]
    · cases h
  | .top :: _, _, h => by simp [toDs] at h
  | .agg _ :: _, _, h => by simp [toDs] at h
  | .tup _ :: _, _, h => by simp [toDs] at h
  | .loc _ _ :: _, _, h => by simp [toDs] at h
  | .own _ :: _, _, h => by simp [toDs] at h
  | .sub _ _ _ :: _, _, h => by simp [toDs] at h
  | .clo _ _ _ :: _, _, h => by simp [toDs] at h
  | .ab _ :: _, _, h => by simp [toDs] at h
theorem Osr {e id : Nat} {y : Operand} (k : Nat) (ho : o.op = .store t x y) (hl : ∀ a, (enc a).length = sz) (hx : l[i]? = some x0) (y0 : α) (hp : opA st x = .loc id (i * sz + k) := by kernel_rfl)
    (hb : st.H.getD id .unborn = .arr e sz l.length (flatD enc l) := by kernel_rfl) (hds : (dsOf (opA st y)).isSome = true := by kernel_rfl) (hn : sizeT P t = some ((dsOf (opA st y)).getD []).length := by kernel_rfl) (hle : Nat.ble (k + ((dsOf (opA st y)).getD []).length) sz = true := by kernel_rfl)
    (hy0 : putC (enc x0) k ((dsOf (opA st y)).getD []) = enc y0 := by kernel_rfl) : OpRun P o st (locsOf [x, y] ++ [.blk id]) (.tup []) [(id, .arr e sz (l.set i y0).length (flatD enc (l.set i y0)))] := by
  obtain ⟨cs, hcs⟩ := Option.isSome_iff_exists.1 hds
  rw [hcs] at hn hle hy0
  simp only [Option.getD_some] at hn hle hy0
  unfold dsOf at hcs
  split at hcs
  · rename_i ys hys
    exact (op_storeRow ho hp hb rfl hys hcs (by rw [hn, toDs_len hcs]) (flat_fitk hl (getlt hx) (Nat.le_of_ble_eq_true hle))).castB (bl_one (by simp) (flat_setk hl hx hy0 (Nat.le_of_ble_eq_true hle)))
  · cases hcs
end
/-! ### nil becomes an own row -/
theorem wkN_refl {nid : Nat} : ∀ xs : List A, wkN nid xs xs
  | [] => trivial
  | x :: xs => ⟨.inl rfl, wkN_refl xs⟩
theorem wkN_set {nid : Nat} : ∀ {xs : List A} {t : Nat}, xs[t]? = some (.d .nil) → wkN nid (xs.set t (.own nid)) xs
  | [], t, h => by simp at h
  | x :: xs, 0, h => by
    simp only [List.getElem?_cons_zero, Option.some.injEq] at h
    exact ⟨.inr ⟨rfl, h⟩, wkN_refl xs⟩
  | x :: xs, t + 1, h => ⟨.inl rfl, wkN_set (by simpa using h)⟩
theorem Weak.ownS {st : St} (t e sz : Nat) (h1 : st.env[t]? = some (.d .nil)) : Weak st ⟨st.env.set t (.own st.H.length), st.H ++ [.arr e sz 0 []], st.k⟩ :=
  Weak.own (st' := ⟨st.env.set t (.own st.H.length), st.H ++ [.arr e sz 0 []], st.k⟩) st.H.length e sz (getD_none (Nat.le_refl _)) rfl (wkN_set h1) (by simp [List.getD_eq_getElem?_getD]) fun j hj => .inl (getD_snoc rfl hj)
def boxAt (H : List Blk) (b : Nat) : List A := match H.getD b .unborn with | .box xs => xs | _ => []
theorem Weak.ownB {st : St} (b i e sz : Nat) (h1 : (boxAt st.H b)[i]? = some (.d .nil)) : Weak st ⟨st.env, st.H.set b (.box ((boxAt st.H b).set i (.own st.H.length))) ++ [.arr e sz 0 []], st.k⟩ := by
  have hb : st.H.getD b .unborn = .box (boxAt st.H b) := by
    cases hx : st.H.getD b .unborn with
    | box xs => simp only [boxAt, hx]
    | _ => rw [boxAt, hx] at h1; simp at h1
  have hl : b < st.H.length := by
    rcases Nat.lt_or_ge b st.H.length with h | h
    · exact h
    · rw [getD_none h] at hb; cases hb
  exact Weak.own (st' := ⟨st.env, st.H.set b (.box ((boxAt st.H b).set i (.own st.H.length))) ++ [.arr e sz 0 []], st.k⟩) st.H.length e sz (getD_none (Nat.le_refl _)) rfl (wkN_refl _) (by simp [List.getD_eq_getElem?_getD, List.getElem?_append]) (ownH_set (i := b) rfl hb hl (wkN_set h1))
section
variable {P : Program} {K : Exit → St → Prop} {c : Code} {st : St}
theorem Aow (t e sz : Nat) (st' : St) (h : AWP P K c st') (h1 : st.env[t]? = some (.d .nil) := by kernel_rfl) (e1 : (⟨st.env.set t (.own st.H.length), st.H ++ [.arr e sz 0 []], st.k⟩ : St) = st' := by kernel_rfl) : AWP P K c st := AWP.weak (Weak.ownS t e sz h1) (AWP.to_ e1 h)
theorem Row {n : Nat} (t e sz : Nat) (st' : St) (h : Rounds P K c n st') (h1 : st.env[t]? = some (.d .nil) := by kernel_rfl) (e1 : (⟨st.env.set t (.own st.H.length), st.H ++ [.arr e sz 0 []], st.k⟩ : St) = st' := by kernel_rfl) : Rounds P K c n st := Rounds.weak (Weak.ownS t e sz h1) (Rounds.to_ e1 h)
theorem Aob (b i e sz : Nat) (st' : St) (h : AWP P K c st') (h1 : (boxAt st.H b)[i]? = some (.d .nil) := by kernel_rfl) (e1 : (⟨st.env, st.H.set b (.box ((boxAt st.H b).set i (.own st.H.length))) ++ [.arr e sz 0 []], st.k⟩ : St) = st' := by kernel_rfl) : AWP P K c st := AWP.weak (Weak.ownB b i e sz h1) (AWP.to_ e1 h)
theorem Rob {n : Nat} (b i e sz : Nat) (st' : St) (h : Rounds P K c n st') (h1 : (boxAt st.H b)[i]? = some (.d .nil) := by kernel_rfl) (e1 : (⟨st.env, st.H.set b (.box ((boxAt st.H b).set i (.own st.H.length))) ++ [.arr e sz 0 []], st.k⟩ : St) = st' := by kernel_rfl) : Rounds P K c n st := Rounds.weak (Weak.ownB b i e sz h1) (Rounds.to_ e1 h)
theorem Ago (j : Nat) (st' : St) (h : AWP P K c st') (hb : isLive (st.H.getD j .unborn) = true := by kernel_rfl) (e1 : (⟨st.env, st.H.set j .gone, st.k⟩ : St) = st' := by kernel_rfl) : AWP P K c st := AWP.weak (Weak.gone j hb e1.symm) h
theorem Rgo {n : Nat} (j : Nat) (st' : St) (h : Rounds P K c n st') (hb : isLive (st.H.getD j .unborn) = true := by kernel_rfl) (e1 : (⟨st.env, st.H.set j .gone, st.k⟩ : St) = st' := by kernel_rfl) : Rounds P K c n st := Rounds.weak (Weak.gone j hb e1.symm) h
end
section
variable {P : Program} {t u : TypeId} {k : IntKind} {a b : Int}
theorem hb_max (ty : TypeId) (cs : Array Bool) (w : World) : (builtin .max #[t, u] ty cs #[.int k a, .int k b]).run P w = .ok (.value (.int k (max a b))) w := by
  simp [builtin, Builtin.max_, Builtin.max2]
  omega
theorem hb_min (ty : TypeId) (cs : Array Bool) (w : World) : (builtin .min #[t, u] ty cs #[.int k a, .int k b]).run P w = .ok (.value (.int k (min a b))) w := by
  simp [builtin, Builtin.min_, Builtin.min2]
  omega
end
end Go.Proofs.Ytdpmojhejidhiaa.K
