/- OctetBack: for every input the law returns true. No condition. -/
import Derived.Test.YtfklpnaklhcobaaON
import Derived.Test.YtfklpnaklhcobaaFrame
import Derived.Test.YtfklpnaklhcobaaRows
namespace Go.Proofs.Ytfklpnaklhcobaa
open Go.ChangeShapes Go.WideShapes Go.ChangeAt Go.RowKit
open Go.ChangeMaps (open_string shut_string)
set_option linter.unusedVariables false

theorem law_OctetBack (W : World) (v : Value) (l : List Int) (hl : IsSl 1 (l.map (.int .u64)) v W) (hw : ∀ n ∈ l, (Lit.int .u64 n).wf = true) (s : ByteArray) (hs : s.size ≤ maxLen) : Calls Try.prog 5 #[v, .string s] W fun e W' => ∃ v, e = .returned v ∧ Ext W W' ∧ v = .bool true := by
  obtain ⟨q, rfl⟩ : ∃ q : List Nat, l = q.map (fun n : Nat => (n : Int)) := ⟨l.map Int.toNat, by
    rw [List.map_map]
    exact (List.map_id l).symm.trans (List.map_congr_left fun n hn => by have := bounds_u64 (hw n hn); simp; omega)⟩
  have h64 : ∀ x ∈ q, x < 18446744073709551616 := fun x hx => by
    have := bounds_u64 (hw x (List.mem_map.2 ⟨x, hx, rfl⟩)); omega
  refine K.law_join (K.back_w q s h64) ?_
  have := K.rep_ints hl (ds := K.flatD K.u64E q) (by rw [List.map_map]; exact K.flat_map q)
  rw [List.length_map] at this
  exact K.reps_cons (K.rep_d this) (K.reps_cons (K.rep_lit rfl) K.reps_nil)
theorem own_OctetBack : ownKnob Try.prog.godebug = none := by kernel_rfl
theorem laidOut_OctetBack : laidOutB Try.prog = true := by kernel_rfl
set_option maxRecDepth 100000 in
theorem lifted_OctetBack (os : Os) (started : os.Started) (H : Type) (enc : TypeId × Value → H) :
    ReturnsInHanded {} Try.checked os 5 .any (Rows.octetBackSpec.pre6 enc Try.prog Try.f5 Rows.octetBackRow.domain false) (Rows.octetBackSpec.post enc Try.prog Try.f5 false true false false) := by
  refine returnsInHanded_of_change (C := Try.checked) own_OctetBack started (by kernel_rfl) Try.func5
    (ChangeSpec.witness6 (enc := enc) (C := Try.checked) false ⟨#[], #[.slice none 0 0, .string ⟨#[]⟩], []⟩ 8 (by kernel_rfl) (by kernel_rfl) (by kernel_rfl) (by kernel_rfl)) ?_
  intro W base args ds gs before hval0 hW hcnd _
  have hval : ∀ (j : Nat) t v, Try.f5.params[j]? = some t → args[j]? = some v → Value.okWide Try.prog W .any base t v := hval0
  have hW' := hW
  obtain ⟨p, q, hA0, hV, rfl, hfz, hnd⟩ := hW
  have hA : DataW.TrodAll enc Try.prog W 0 (fun _ => true) true Try.f5.params.toList args.toList ds p := hA0
  rw [Try.params5] at hA hval
  have hAll := hA
  obtain ⟨v0, vs0, d0, ds0, p0, q0, hargs, rfl, rfl, h0, r0⟩ := trodAll_cons hA
  obtain ⟨v1, vs1, d1, ds1, p1, q1, rfl, rfl, rfl, h1, r1⟩ := trodAll_cons r0
  obtain ⟨rfl, rfl, rfl⟩ := trodAll_nil r1
  obtain rfl : args = #[v0, v1] := by cases args; simp_all
  obtain ⟨rfl, rfl⟩ := trodVars_none hV
  obtain ⟨l0, w0, x0⟩ := op_slice_ints Try.underlying60 Try.underlying25 (by kernel_rfl) (hval 0 60 v0 rfl rfl) h0
  obtain ⟨s1, rfl, rfl, rfl, w1⟩ := open_string Try.underlying9 (hval 1 9 v1 rfl rfl) h1
  clear hA0 hval0
  refine Calls.mono (law_OctetBack W v0 l0 w0 x0 s1 w1) fun e W' ⟨v, he, bel, hv⟩ => ?_
  subst he
  subst hv
  exact ⟨_, rfl, _, _, _, [], _, [], hW', trodAll_mk1 (shut_bool Try.underlying4 _), trodAll_below laidOut_OctetBack bel (by kernel_rfl) hAll, rfl, bel.frame _, fun h => by cases h⟩
/-- The statement. -/
theorem holds_OctetBack : Rows.OctetBackSaid :=
  OpenClaim.holds_of_wide 5 Try.f5 rfl rfl rfl rfl rfl rfl rfl ⟨rfl, rfl, rfl, rfl, rfl⟩ rfl rfl rfl rfl rfl (by kernel_rfl) Try.func5 (by kernel_rfl)
    (of_decide_eq_true (by kernel_rfl)) (by unfold Func.isWrapper; first | (rw [if_pos (by decide +kernel)]; kernel_rfl) | (rw [if_neg (by decide +kernel)]; exact ⟨rfl, rfl⟩))
    (fun os started H enc _ => lifted_OctetBack os started H enc)
end Go.Proofs.Ytfklpnaklhcobaa
