/- ZigTakes: for every bytes and every place the law returns true. No condition. -/
import Derived.Test.YtnhabcmemadgcaaZigA
import Derived.Test.YtnhabcmemadgcaaFrame
import Derived.Test.YtnhabcmemadgcaaRows
namespace Go.Proofs.Ytnhabcmemadgcaa
open Go.ChangeShapes Go.WideShapes Go.ChangeAt Go.RowKit
open Go.ChangeMaps (open_string shut_string)
set_option linter.unusedVariables false

theorem tk_err (l : List UInt8) : ∀ (f i u : Nat), (tk l f i u).2.2 ≠ 0 → (tk l f i u).1 = 0
  | 0, _, _, _ => by simp [tk]
  | f + 1, i, u, h => by
    rw [tk] at h ⊢
    cases hl : l[i]? with
    | none => rfl
    | some c =>
      rw [hl] at h
      simp only at h ⊢
      split at h
      · rw [if_pos ‹_›]
      · rw [if_neg ‹_›]
        split at h
        · rw [if_pos ‹_›]
        · rw [if_neg ‹_›]
          split at h
          · exact absurd rfl h
          · rw [if_neg ‹_›]; exact tk_err l f _ _ h
theorem ztk_err (l : List UInt8) (a : Int) (h : (ztk l a).2.2 ≠ 0) : (ztk l a).1 = 0 := by
  unfold ztk at h ⊢
  split
  · rfl
  · rename_i h1
    rw [if_neg h1] at h
    exact tk_err _ _ _ _ h
set_option maxRecDepth 100000 in
set_option maxHeartbeats 8000000 in
theorem law_ZigTakes (w : World) (s : ByteArray) (hs : s.size ≤ maxLen) (a : Int) (ha : -9223372036854775808 ≤ a ∧ a ≤ 9223372036854775807) :
    Gives Try.prog 5 #[.string s, .int .i64 a] w (Is (.bool true)) := by
  obtain ⟨ha0, ha1⟩ := ha
  unfold maxLen at hs
  by_cases hbig : 300 < s.size
  · go_enter Try.func5, Try.ntmps5
    go_wp2_with (go_at_call 9; refine Calls.mono (awake_c _) ?_; rintro _ w1 ⟨_, rfl, hx1, rfl⟩)
    go_ret
    exact ⟨_, rfl, hx1, rfl⟩
  · have hs' : s.size ≤ 1099511627776 := by omega
    have h1 := take_c s a hs'
    have h2 := rtake_c s a hs'
    have h3 := takeint_c s a hs' _ rfl (ztk_lt _ _)
    have hlt := ztk_lt s.data.toList a
    have herr := ztk_err s.data.toList a
    unfold ztkV at h1 h2
    generalize ztk s.data.toList a = r at *
    obtain ⟨u, n, e⟩ := r
    simp only at *
    have H1 := Lib.hid h1
    have H2 := Lib.hid h2
    have H3 := Lib.hid h3
    have He := Lib.hid herr
    clear h1 h2 h3 herr
    by_cases he : e = 0
    · subst he
      go_enter Try.func5, Try.ntmps5
      go_wp2_with (first
        | (go_at_call 9; refine Calls.mono (awake_c _) ?_; rintro _ w1 ⟨_, rfl, hx1, rfl⟩)
        | (go_at_call 17; refine (H1.out _).mono ?_; rintro _ _ ⟨rfl, rfl⟩)
        | (go_at_call 18; refine (H2.out _).mono ?_; rintro _ _ ⟨rfl, rfl⟩)
        | (go_at_call 19; refine (H3.out _).mono ?_; rintro _ _ ⟨rfl, rfl⟩)
        | (go_at_call 16; refine (rback_c _ hlt _).mono ?_; rintro _ _ ⟨rfl, rfl⟩))
      go_ret
      exact ⟨_, rfl, hx1, rfl⟩
    · obtain rfl : u = 0 := He.out he
      have e0 : ((e : Int) == 0) = false := by simp; omega
      have e1 : zback 0 = 0 := by simp [zback]
      go_enter Try.func5, Try.ntmps5
      go_wp2_with (first
        | (go_at_call 9; refine Calls.mono (awake_c _) ?_; rintro _ w1 ⟨_, rfl, hx1, rfl⟩)
        | (go_at_call 17; refine (H1.out _).mono ?_; rintro _ _ ⟨rfl, rfl⟩)
        | (go_at_call 18; refine (H2.out _).mono ?_; rintro _ _ ⟨rfl, rfl⟩)
        | (go_at_call 19; refine (H3.out _).mono ?_; rintro _ _ ⟨rfl, rfl⟩))
      go_ret
      exact ⟨_, rfl, hx1, rfl⟩
theorem own_ZigTakes : ownKnob Try.prog.godebug = none := by kernel_rfl
theorem laidOut_ZigTakes : laidOutB Try.prog = true := by kernel_rfl
set_option maxRecDepth 100000 in
theorem lifted_ZigTakes (os : Os) (started : os.Started) (H : Type) (enc : TypeId × Value → H) :
    ReturnsInHanded {} Try.checked os 5 .any (Rows.zigTakesSpec.pre6 enc Try.prog Try.f5 Rows.zigTakesRow.domain false) (Rows.zigTakesSpec.post enc Try.prog Try.f5 false true false false) := by
  refine returnsInHanded_of_change (C := Try.checked) own_ZigTakes started (by kernel_rfl) Try.func5
    (ChangeSpec.witness6 (enc := enc) (C := Try.checked) false ⟨#[], #[.string ⟨#[]⟩, .int .i64 0], []⟩ 8 (by kernel_rfl) (by kernel_rfl) (by kernel_rfl) (by kernel_rfl)) ?_
  intro W base args ds gs before hval0 hW hcnd _
  have hval : ∀ (j : Nat) t v, Try.f5.params[j]? = some t → args[j]? = some v → Value.okWide Try.prog W .any base t v := hval0
  have hW' := hW
  obtain ⟨p, q, hA0, hV, rfl, hfz, hnd⟩ := hW
  have hA : DataW.TrodAll enc Try.prog W 0 (fun _ => true) true Try.f5.params.toList args.toList ds p := hA0
  rw [Try.params5] at hA hval
  have hAll := hA
  obtain ⟨v0, vs0, d0, ds0, p0, q0, hargs, rfl, rfl, h0, r0⟩ := trodAll_cons hA
  obtain ⟨v1, vs1, d1, ds1, p1, q1, rfl, rfl, rfl, h1, r1⟩ := trodAll_cons r0
  obtain ⟨rfl, rfl, rfl⟩ := trodAll_nil r1
  obtain rfl : args = #[v0, v1] := by cases args; simp_all
  obtain ⟨rfl, rfl⟩ := trodVars_none hV
  obtain ⟨s0, rfl, rfl, rfl, w0⟩ := open_string Try.underlying9 (hval 0 9 v0 rfl rfl) h0
  obtain ⟨a1, rfl, rfl, rfl, w1⟩ := open_int Try.underlying3 (hval 1 3 v1 rfl rfl) h1
  clear hA0 hval0
  refine Calls.mono (law_ZigTakes W s0 w0 a1 (bounds_i64 w1)) fun e W' ⟨v, he, bel, hv⟩ => ?_
  subst he
  subst hv
  exact ⟨_, rfl, _, _, _, [], _, [], hW', trodAll_mk1 (shut_bool Try.underlying4 _), trodAll_below laidOut_ZigTakes bel (by kernel_rfl) hAll, rfl, bel.frame _, fun h => by cases h⟩
/-- The statement. -/
theorem holds_ZigTakes : Rows.ZigTakesSaid :=
  OpenClaim.holds_of_wide 5 Try.f5 rfl rfl rfl rfl rfl rfl rfl ⟨rfl, rfl, rfl, rfl, rfl⟩ rfl rfl rfl rfl rfl (by kernel_rfl) Try.func5 (by kernel_rfl)
    (of_decide_eq_true (by kernel_rfl)) (by unfold Func.isWrapper; first | (rw [if_pos (by decide +kernel)]; kernel_rfl) | (rw [if_neg (by decide +kernel)]; exact ⟨rfl, rfl⟩))
    (fun os started H enc _ => lifted_ZigTakes os started H enc)
end Go.Proofs.Ytnhabcmemadgcaa
