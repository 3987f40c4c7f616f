/- Addresses in arrays; equality of structs; order of texts; from a contract to a law. -/
import Derived.Test.YtdpmojhejidhiaaAq
import Derived.Test.YtdpmojhejidhiaaMem
import Derived.Laws.StructEq
namespace Go.Proofs.Ytdpmojhejidhiaa.K
open Go.RowKit Go.Lib
set_option linter.unusedVariables false
set_option linter.unusedSimpArgs false
section
variable {P : Program} {o : Oper} {st : St}
def arrElem (P : Program) (t : TypeId) : Option (Nat × Nat) := match P.underlying t with
  | some (.array n e) => (P.info? e).map fun i => (n, i.size)
  | _ => none
theorem arrElem_spec {t n sz : Nat} (h : arrElem P t = some (n, sz)) : ∃ e i, P.underlying t = some (.array n e) ∧ P.info? e = some i ∧ i.size = sz := by
  unfold arrElem at h
  cases hu : P.underlying t with
  | none => rw [hu] at h; cases h
  | some d =>
    rw [hu] at h
    cases d with
    | array n' e =>
      simp only at h
      cases hi : P.info? e with
      | none => rw [hi] at h; cases h
      | some i => rw [hi] at h; cases h; exact ⟨e, i, rfl, hi, rfl⟩
    | _ => cases h
theorem op_iaddr_arr {t n sz i : Nat} {x ix : Operand} {y : A} {k : IntKind} {iv : Int} (ho : o.op = .indexAddr t x ix) (hy : opA st x = y) (hc : (cellsAt st.H y).isSome = true) (he : arrElem P t = some (n, sz)) (hi : opA st ix = .d (.lit (.int k iv))) (hiv : iv = (i : Int)) (hin : i < n) :
    OpRun P o st (locsOf [x, ix] ++ locA y) (addA (i * sz) y) [] := by
  refine .pure fun st' hag cx m S a w hs => ?_
  have hr := op_rep hy (R := locsOf [x, ix] ++ locA y) (fun l h => by simp [locsOf, h]) hag hs
  have hix := op_lit hi (R := locsOf [x, ix] ++ locA y) (fun l h => by simp [locsOf, h]) hag hs
  rw [← locA_agree fun l h => hag l (by simp [h])] at hc
  obtain ⟨p, hp, h2⟩ := addA_rep hs.hold hr (by cases h : cellsAt st'.H y <;> simp_all) (i * sz)
  obtain ⟨e, inf, hu, hinf, hsz⟩ := arrElem_spec he
  refine ⟨_, ?_, h2⟩
  subst hiv
  have h0 : (0 : Int) ≤ i ∧ (i : Int) < n := by omega
  simp [execOp, ho, Instr.indexAt, hix, asIntOf, run_underlying hu, hp, Instr.sureAddr, sizeOf, typeInfo, hinf, hsz, hin]
/-! ### texts in order -/
theorem hb_slss {t : TypeId} {x y : Operand} {s u : ByteArray} {w : World} : (do eqGuard .lss t x y (.string s) (.string u); binOp .lss t (.string s) (.string u) : Sem Value).run P w = .ok (.bool (decide (Op.bytesLess s.toList u.toList = true))) w := by
  simp [eqGuard, binOp, Op.stringOp]
/-! ### structs of plain cells -/
def scalEq (P : Program) (t : TypeId) (a b : Value) : Option Bool := match P.underlying t, a, b with
  | some (.int _), .int k x, .int k' y => match decide (k = k') with | true => some (decide (x = y)) | false => none
  | some .bool, .bool x, .bool y => some (decide (x = y))
  | some .string, .string x, .string y => some (decide (x = y))
  | _, _, _ => none
theorem scalEq_run {t : TypeId} {a b : Value} {r : Bool} (h : scalEq P t a b = some r) (d : Nat) (w : World) : (Op.equalIn (d + 1) t a b).run P w = .ok r w := by
  unfold scalEq at h
  split at h
  · next k0 k x k' y hu =>
    split at h
    · next hk => cases of_decide_eq_true hk; cases h; rw [run_equalIn_int w d t k _ x y hu]; congr 1
    · cases h
  · next x y hu => cases h; rw [run_equalIn_bool' w d t x y hu]; congr 1
  · next x y hu =>
    cases h; rw [run_equalIn_string w d t x y hu]
    congr 1
    exact Bool.eq_iff_iff.2 (by simp [toList_inj])
  · cases h
def partV (P : Program) (t : TypeId) (xs : List Value) (off : Nat) : Option Value := match P.underlying t with
  | some (.struct _) | some (.array _ _) | none => none
  | some _ => xs[off]?
theorem partV_run {t : TypeId} {xs : List Value} {off : Nat} {v : Value} (h : partV P t xs off = some v) (w : World) : (part t xs.toArray off).run P w = .ok v w := by
  unfold partV at h
  cases hu : P.underlying t with
  | none => rw [hu] at h; cases h
  | some d =>
    rw [hu] at h
    cases d <;> first | (simp only at h; cases h; done) | (simp only at h; simp [part, isAgg, run_underlying hu, h])
def fieldsEq (P : Program) (xs ys : List Value) : List Field → Option Bool
  | [] => some true
  | f :: fs => match decide (f.name ≠ "_"), partV P f.type xs f.offset, partV P f.type ys f.offset with
    | true, some a, some b => match scalEq P f.type a b, fieldsEq P xs ys fs with
      | some r, some s => some (r && s)
      | _, _ => none
    | _, _, _ => none
theorem fieldsEq_run {xs ys : List Value} (d : Nat) (w : World) : ∀ {fs : List Field} {r : Bool}, fieldsEq P xs ys fs = some r → (Op.eqFields (d + 1) xs.toArray ys.toArray fs).run P w = .ok r w
  | [], r, h => by cases h; simp [Op.eqFields]
  | f :: fs, r, h => by
    unfold fieldsEq at h
    split at h
    · next a b hn ha hb =>
      split at h
      · next q s hq hs =>
        cases h
        have ih := fieldsEq_run d w hs
        simp only [Op.eqFields, if_pos (of_decide_eq_true hn), Sem.run_bind, partV_run ha, partV_run hb, Result.andThen_ok, scalEq_run hq]
        cases q
        · simp
        · simp [ih]
      · cases h
    · cases h
def structEq (P : Program) (t : TypeId) (xs ys : List Value) : Option Bool := match P.underlying t, P.stoodInHeld t, P.eqGuardType P.depth t with
  | some (.struct fs), false, false => fieldsEq P xs ys fs.toList
  | _, _, _ => none
theorem structEq_spec {t : TypeId} {xs ys : List Value} {r : Bool} (h : structEq P t xs ys = some r) (w : World) : (Op.equalIn 10000 t (.agg xs.toArray) (.agg ys.toArray)).run P w = .ok r w ∧ P.eqGuardType P.depth t = false := by
  unfold structEq at h
  split at h
  · next fs hu hs hg =>
    refine ⟨?_, hg⟩
    have hf : P.fieldsOf t = fs := by simp [Program.fieldsOf, hu]
    rw [show (10000 : Nat) = 9998 + 1 + 1 from rfl, run_equalIn_struct w (9998 + 1) t _ _ (by rw [hf]; exact hu) hs, hf]
    exact fieldsEq_run 9998 w h
  · cases h
def litsOf : List A → Option (List Value)
  | [] => some []
  | .d (.lit v) :: as => (litsOf as).map (v :: ·)
  | _ => none
theorem litsOf_spec {m : Mp} {S : Nat → Prop} {w : World} : ∀ {as : List A} {us vs : List Value}, litsOf as = some us → Reps m S w as vs → vs = us
  | [], us, vs, h, hr => by cases h; simp only [Reps] at hr; exact hr
  | a :: as, us, vs, h, hr => by
    unfold litsOf at h
    split at h
    · next heq => cases heq
    · next v as' heq =>
      cases heq
      cases hl : litsOf as with
      | none => rw [hl] at h; cases h
      | some l =>
        rw [hl] at h; cases h
        simp only [Reps] at hr
        obtain ⟨u, r, rfl, h1, h2⟩ := hr
        simp only [Rep] at h1
        unfold RepD at h1
        rw [h1.1, litsOf_spec hl h2]
    · cases h
theorem op_agg_lits {x : Operand} {as : List A} {us : List Value} {R : List Loc} (hx : opA st x = .agg as) (hl : litsOf as = some us) (hR : ∀ l ∈ locOf x, l ∈ R) {st' : St} (hag : ∀ l ∈ R, st'.at l = st.at l) {cx : Cx} {m : Mp} {S : Nat → Prop} {a : Act} {w : World} (hs : Sim cx m S a w st') : a.eval x = .agg us.toArray := by
  have hr := op_rep hx hR hag hs
  simp only [Rep] at hr
  obtain ⟨vs, h1, h2⟩ := hr
  have := litsOf_spec hl h2
  rw [h1]; congr 1
  apply Array.ext'; simpa using this
theorem op_eql_struct {t u : TypeId} {x y : Operand} {la lb : List A} {us vs : List Value} {r : Bool} (ho : o.op = .binOp .eql t x y u) (hx : opA st x = .agg la) (hy : opA st y = .agg lb) (h1 : litsOf la = some us) (h2 : litsOf lb = some vs) (h : structEq P t us vs = some r) : OpRun P o st (locsOf [x, y]) (.d (.lit (.bool r))) [] := by
  refine .pure fun st' hag cx m S a w hs => ⟨.bool r, ?_, by simp only [Rep]; unfold RepD; exact ⟨rfl, rfl⟩⟩
  have e1 := op_agg_lits hx h1 (R := locsOf [x, y]) (fun l h => by simp [locsOf, h]) hag hs
  have e2 := op_agg_lits hy h2 (R := locsOf [x, y]) (fun l h => by simp [locsOf, h]) hag hs
  have k := structEq_spec h w
  simp only [execOp, ho, e1, e2, Sem.run_bind, run_eqGuard_agg w _ _ _ _ _ _ k.2, Result.andThen_ok, run_eql_struct, k.1]
  simp
theorem op_neq_struct {t u : TypeId} {x y : Operand} {la lb : List A} {us vs : List Value} {r : Bool} (ho : o.op = .binOp .neq t x y u) (hx : opA st x = .agg la) (hy : opA st y = .agg lb) (h1 : litsOf la = some us) (h2 : litsOf lb = some vs) (h : structEq P t us vs = some r) : OpRun P o st (locsOf [x, y]) (.d (.lit (.bool (!r)))) [] := by
  refine .pure fun st' hag cx m S a w hs => ⟨.bool (!r), ?_, by simp only [Rep]; unfold RepD; exact ⟨rfl, rfl⟩⟩
  have e1 := op_agg_lits hx h1 (R := locsOf [x, y]) (fun l h => by simp [locsOf, h]) hag hs
  have e2 := op_agg_lits hy h2 (R := locsOf [x, y]) (fun l h => by simp [locsOf, h]) hag hs
  have k := structEq_spec h w
  simp only [execOp, ho, e1, e2, Sem.run_bind, run_eqGuard_agg w _ _ _ _ _ _ k.2, Result.andThen_ok, run_neq_struct, k.1]
  simp
end
/-! ### from a contract to a law -/
theorem law_join {P : Program} {f : FuncId} {args : List A} {W : World} {vs : List Value} (h : GCall P f args [] (.d (.lit (.bool true))) []) (hr : Reps (fun _ => none) (fun b => b < W.heap.size) W args vs) : Calls P f vs.toArray W fun e W' => ∃ v, e = .returned v ∧ Below W.heap.size W W' ∧ v = .bool true := by
  refine Calls.mono (h (fun _ => none) (fun b => b < W.heap.size) W vs ?_ hr) fun e w' ⟨v, m', S', he, h1, h2⟩ => ⟨v, he, ⟨h1.os, h1.tape, h1.output, h1.size, fun k hk => h1.old k hk fun ⟨id, p, hp, _⟩ => by cases hp⟩, ?_⟩
  · exact ⟨rfl, rfl, rfl, Nat.le_refl _, fun _ _ _ => rfl, fun _ h => h, fun b hb => ⟨.inl hb, hb⟩, fun id p b hp => (by cases hp), fun id id' p p' b _ hp => (by cases hp), fun id => rfl, Le.refl _⟩
  · simp only [Rep] at h2; unfold RepD at h2; exact h2.1
theorem rep_sl {cs : List Value} {v : Value} {W : World} {ds : List D} (h : IsSl 1 cs v W) (hd : ds = cs.map D.lit) (h1 : ∀ u ∈ cs, u.oneCell' = true) : RepD (fun b => b < W.heap.size) W (.sl cs.length ds) v := by
  obtain ⟨a, n, cap, rfl, h2, h3, h4, h5, h6⟩ := h
  rw [Nat.mul_one] at h2
  unfold RepD
  refine ⟨a, cap, by rw [h2], by omega, h4, fun ha => ?_, RepDs.of _ _ _ fun j c hc => ?_⟩
  · have := h5 ha; omega
  · rw [hd, List.getElem?_map] at hc
    cases hj : cs[j]? with
    | none => rw [hj] at hc; cases hc
    | some u =>
      rw [hj] at hc
      cases hc
      have hlt := (List.getElem?_eq_some_iff.1 hj).1
      cases a with
      | none => have := h5 rfl; omega
      | some p =>
        have k := h6 p rfl j u hj
        have hu := h1 u (List.mem_of_getElem? hj)
        refine ⟨p, u, rfl, by rw [Nat.zero_add]; exact k, ?_, hu, by unfold RepD; exact ⟨rfl, hu⟩⟩
        have := World.block_lt_of_cell? W _ k
        rw [add_block] at this; exact this
theorem rep_bytes {l : List UInt8} {v : Value} {W : World} (h : IsBytes l v W) : RepD (fun b => b < W.heap.size) W (.sl l.length (bytesD l)) v := by
  have := rep_sl h (ds := bytesD l) (by simp [bytesD, bytesC, byteD]) fun u hu => by simp [bytesC] at hu; obtain ⟨b, _, rfl⟩ := hu; rfl
  rwa [bytesC_length] at this
theorem rep_ints {k : IntKind} {l : List Int} {v : Value} {W : World} {ds : List D} (h : IsSl 1 (l.map (.int k)) v W) (hd : ds = l.map fun n => .lit (.int k n)) : RepD (fun b => b < W.heap.size) W (.sl l.length ds) v := by
  have := rep_sl h (ds := ds) (by rw [hd]; simp) fun u hu => by simp at hu; obtain ⟨b, _, rfl⟩ := hu; rfl
  rwa [List.length_map] at this
end Go.Proofs.Ytdpmojhejidhiaa.K
