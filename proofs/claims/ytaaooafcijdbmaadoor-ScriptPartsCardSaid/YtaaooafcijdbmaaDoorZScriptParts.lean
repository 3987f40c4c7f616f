/- ScriptParts: for every input the law returns true. No condition. -/
import Derived.Test.YtaaooafcijdbmaaDoorZD1
import Derived.Test.YtaaooafcijdbmaaDoorZMva
import Derived.Test.YtaaooafcijdbmaaDoorRows
import Derived.Test.YtaaooafcijdbmaaDoorCards
import Derived.Test.YtaaooafcijdbmaaDoorTie
set_option linter.unusedVariables false
set_option linter.unusedSimpArgs false
namespace Go.Proofs.YtaaooafcijdbmaaDoor
open Go.ChangeShapes Go.WideShapes Go.ChangeAt Go.RowKit
open Go.ChangeMaps (open_string shut_string)

open K in
theorem law_ScriptParts (W : World) {v0 : Value} (x0 : K.D) (td0 : K.TD Tryd.prog 22 [x0]) (rp0 : K.RepD (fun b => b < W.heap.size) W x0 v0) {v1 : Value} (x1 : K.D) (td1 : K.TD Tryd.prog 23 [x1]) (rp1 : K.RepD (fun b => b < W.heap.size) W x1 v1) {v2 : Value} (x2 : K.D) (td2 : K.TD Tryd.prog 23 [x2]) (rp2 : K.RepD (fun b => b < W.heap.size) W x2 v2) (hG : K.GW (fun b => b < W.heap.size) W) : Calls Tryd.prog 6 #[v0, v1, v2] W fun e W' => ∃ v, e = .returned v ∧ Ext W W' ∧ v = .bool true := by
  obtain ⟨y0, e0, w0⟩ := K.td_slice (enc := K.enc_GType) (q := K.wf_GType) Tryd.underlying22 (fun {r} h => K.td_67 h) td0
  obtain ⟨y1, e1, w1⟩ := K.td_slice (enc := K.enc_GCommand) (q := K.wf_GCommand) Tryd.underlying23 (fun {r} h => K.td_46 h) td1
  obtain ⟨y2, e2, w2⟩ := K.td_slice (enc := K.enc_GCommand) (q := K.wf_GCommand) Tryd.underlying23 (fun {r} h => K.td_46 h) td2
  refine K.law_join (K.ok_w37_ScriptParts y0 y1 y2 true (K.main_ScriptParts y0 y1 y2 w0 w1 w2)) ?_ hG
  exact K.reps_cons (K.rep_1 rp0 e0 rfl) (K.reps_cons (K.rep_1 rp1 e1 rfl) (K.reps_cons (K.rep_1 rp2 e2 rfl) (K.reps_nil)))
theorem own_ScriptParts : ownKnob Tryd.prog.godebug = none := by kernel_rfl
theorem laidOut_ScriptParts : laidOutB Tryd.prog = true := by kernel_rfl
set_option maxRecDepth 100000 in
theorem lifted_ScriptParts (os : Os) (started : os.Started) (H : Type) (enc : TypeId × Value → H) :
    ReturnsInHanded {} Tryd.checked os 6 .any (fun w args => (Rows.scriptPartsSpec.pre enc Tryd.prog Tryd.f6 Rows.scriptPartsRow.domain false w args ∧ laidMet Tryd.prog Rows.scriptPartsRow.laid w) ∧ sizedMet enc Tryd.prog Tryd.f6 (OpenSpec.ofChange Rows.scriptPartsSpec) false w args) (Rows.scriptPartsSpec.post enc Tryd.prog Tryd.f6 false true false false) := by
  refine returnsInHanded_of_change_and (C := Tryd.checked) (X := fun w _ => laidMet Tryd.prog Rows.scriptPartsRow.laid w) (fun _ _ _ hh h => h.of_heap hh) own_ScriptParts started (by kernel_rfl) Tryd.func6
    (ChangeSpec.witness_at (enc := enc) (C := Tryd.checked) (os := os) (X := fun w _ => laidMet Tryd.prog Rows.scriptPartsRow.laid w) false ({ World.holding Tryd.prog os ⟨#[], #[], []⟩ with heap := (World.holding Tryd.prog os ⟨#[], #[], []⟩).heap.modify 0 setParts } : World) #[.slice none 0 0, .slice none 0 0, .slice none 0 0] 12 rfl (by kernel_rfl) (by kernel_rfl) (by kernel_rfl) (by kernel_rfl) (by kernel_rfl) (laid_met os _)) ?_
  intro W base args ds gs before hval0 hW hcnd _ hL _
  have hval : ∀ (j : Nat) t v, Tryd.f6.params[j]? = some t → args[j]? = some v → Value.okWide Tryd.prog W .any base t v := hval0
  have hW' := hW
  obtain ⟨p, q, hA0, hV, rfl, hfz, hnd⟩ := hW
  have hA : DataW.TrodAll enc Tryd.prog W 0 (fun _ => true) true Tryd.f6.params.toList args.toList ds p := hA0
  rw [Tryd.params6] at hA hval
  have hAll := hA
  obtain ⟨v0, vs0, d0, ds0, p0, q0, hargs, rfl, rfl, h0, r0⟩ := trodAll_cons hA
  obtain ⟨v1, vs1, d1, ds1, p1, q1, rfl, rfl, rfl, h1, r1⟩ := trodAll_cons r0
  obtain ⟨v2, vs2, d2, ds2, p2, q2, rfl, rfl, rfl, h2, r2⟩ := trodAll_cons r1
  obtain ⟨rfl, rfl, rfl⟩ := trodAll_nil r2
  obtain rfl : args = #[v0, v1, v2] := by cases args; simp_all
  obtain ⟨rfl, rfl⟩ := trodVars_none hV
  obtain ⟨x0, td0, rp0⟩ := K.open_one 12 (by kernel_rfl) (by kernel_rfl) (hval 0 22 v0 rfl rfl) h0
  obtain ⟨x1, td1, rp1⟩ := K.open_one 12 (by kernel_rfl) (by kernel_rfl) (hval 1 23 v1 rfl rfl) h1
  obtain ⟨x2, td2, rp2⟩ := K.open_one 12 (by kernel_rfl) (by kernel_rfl) (hval 2 23 v2 rfl rfl) h2
  clear hA0 hval0
  refine Calls.mono (law_ScriptParts W x0 td0 rp0 x1 td1 rp1 x2 td2 rp2 (gw_of_laid hL)) fun e W' ⟨v, he, bel, hv⟩ => ?_
  subst he
  subst hv
  exact ⟨_, rfl, _, _, _, [], _, [], hW', trodAll_mk1 (shut_bool Tryd.underlying4 _), trodAll_below laidOut_ScriptParts bel (by kernel_rfl) hAll, rfl, bel.frame _, fun h => by cases h⟩
/-- The row. -/
theorem row_ScriptParts : Rows.ScriptPartsSaid :=
  OpenClaim.holds_of_wide 6 Tryd.f6 rfl rfl rfl rfl rfl rfl rfl ⟨rfl, rfl, rfl, rfl, rfl⟩ rfl rfl rfl rfl rfl (by kernel_rfl) Tryd.func6 (by kernel_rfl)
    (of_decide_eq_true (by kernel_rfl)) (by unfold Func.isWrapper; first | (rw [if_pos (by decide +kernel)]; kernel_rfl) | (rw [if_neg (by decide +kernel)]; exact ⟨rfl, rfl⟩))
    (fun os started H enc _ => lifted_ScriptParts os started H enc)
set_option maxRecDepth 100000 in
theorem holds_ScriptParts : Rows.ScriptPartsCardSaid :=
  Claim7.holds_tied_plain_at .later [] [.data] true (true, "5c7d367e15e126b6f130b0d8270c4647c1260d2ecc2fd69576d4f5d33738fdde") true row_ScriptParts (fun _ h => by cases h) (by kernel_rfl) (fun _ h => by cases h) scriptParts_row_tie rfl ⟨rfl, rfl⟩ (by kernel_rfl) rfl
    (fun f fn hf hfn => by
      obtain rfl : 6 = f := Option.some.inj (Eq.trans (by kernel_rfl) hf)
      obtain rfl : fn = Tryd.f6 := (Option.some.inj (Tryd.func6.symm.trans hfn)).symm
      refine ⟨by kernel_rfl, fun j t hj => ?_⟩
      rw [Tryd.params6] at hj
      rcases j with _ | j
      · obtain rfl : t = 22 := by simpa using hj.symm
        exact (by kernel_rfl : Tryd.prog.wantsStandIn 22 = false)
      rcases j with _ | j
      · obtain rfl : t = 23 := by simpa using hj.symm
        exact (by kernel_rfl : Tryd.prog.wantsStandIn 23 = false)
      rcases j with _ | j
      · obtain rfl : t = 23 := by simpa using hj.symm
        exact (by kernel_rfl : Tryd.prog.wantsStandIn 23 = false)
      simp at hj)
    (by kernel_rfl)
end Go.Proofs.YtaaooafcijdbmaaDoor
