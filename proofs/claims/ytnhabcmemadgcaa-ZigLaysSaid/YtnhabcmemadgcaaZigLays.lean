/- ZigLays: for every bytes, every number and every whole number the law returns true. No condition. -/
import Derived.Test.YtnhabcmemadgcaaZigA
import Derived.Test.YtnhabcmemadgcaaFrame
import Derived.Test.YtnhabcmemadgcaaRows
namespace Go.Proofs.Ytnhabcmemadgcaa
open Go.ChangeShapes Go.WideShapes Go.ChangeAt Go.RowKit
open Go.ChangeMaps (open_string shut_string)
set_option linter.unusedVariables false

set_option maxRecDepth 100000 in
set_option maxHeartbeats 8000000 in
theorem law_ZigLays (w : World) (v : Value) (l : List UInt8) (hb : IsBytes l v w) (u : Int) (hu : 0 ≤ u ∧ u ≤ 18446744073709551615) (n : Int) (hn : -9223372036854775808 ≤ n ∧ n ≤ 9223372036854775807) :
    Gives Try.prog 4 #[v, .int .u64 u, .int .i64 n] w (Is (.bool true)) := by
  obtain ⟨hn0, hn1⟩ := hn
  obtain ⟨u, rfl⟩ := Int.eq_ofNat_of_zero_le hu.1
  have hu1 : u < 18446744073709551616 := by omega
  clear hu
  obtain ⟨a, m, cap, rfl, hln, hnc, hcm, han, hcell⟩ := id hb
  rw [bytesC_length, Nat.mul_one] at hln
  clear hcell han
  by_cases hbig : 100 < m
  · go_enter Try.func4, Try.ntmps4
    go_wp2_with (go_at_call 9; refine Calls.mono (awake_c _) ?_; rintro _ w1 ⟨_, rfl, hx1, rfl⟩)
    go_ret
    exact ⟨_, rfl, hx1, rfl⟩
  · have hl : l.length ≤ 100 := by omega
    have Hln := Lib.hid hln
    clear hln
    have hzn := zfold_lt n hn0 hn1
    go_enter Try.func4, Try.ntmps4
    go_wp2_with (at_builtin; refine wpList_appx elemU8 (w0 := w) rfl _ _ rfl rfl rfl (Ext.alloc _ _) (Owns.lit w _ 1 [] 0 rfl (by unfold maxLen; omega)) (hb.ext (Ext.alloc _ _)) (bytesC_one l) (by simp [bytesC_length]; omega) ?_; intro v1 w1 ho1 hx1 hk1)
    rw [List.nil_append] at ho1
    have hb0 := hb.ext hx1
    have hb1 : IsBytes l v1 w1 := ho1.isSl
    clear ho1 hk1 hb
    refine wp_region_S0 _ (by kernel_rfl) (by kernel_rfl) ?_
    refine' wpS_mv (g := .val _) 7 rfl rfl rfl rfl rfl ?_
    refine' wpS_mv (g := .val _) 1 rfl rfl rfl rfl rfl ?_
    refine' wpS_call (g := (.rep (IsSl 1 (bytesC (l ++ zb u))) (IsSl.stable _ _))) 10 _ [(15, _), (16, _)] [] rfl rfl rfl rfl ⟨_, Try.func10, by kernel_rfl, by kernel_rfl⟩ rfl ⟨rfl, rfl, trivial⟩ trivial (fun w' hx => ?run1) ?_
    case run1 => (exact (put_c l _ u hu1 w' (hb1.ext ((Ext.drew _).trans hx)) (by omega)).isSl)
    refine' wpS_str rfl rfl rfl rfl Try.underlying28 Try.underlying5 Try.underlying9 rfl ?_
    refine' wpS_mv (g := .val _) 0 rfl rfl rfl rfl rfl ?_
    refine' wpS_mv (g := .val _) 1 rfl rfl rfl rfl rfl ?_
    refine' wpS_call (g := (.rep (IsSl 1 (bytesC (l ++ zb u))) (IsSl.stable _ _))) 11 _ [(19, _), (20, _)] [] rfl rfl rfl rfl ⟨_, Try.func11, by kernel_rfl, by kernel_rfl⟩ rfl ⟨rfl, rfl, trivial⟩ trivial (fun w' hx => ?run2) ?_
    case run2 => (exact (rput_c l _ u hu1 w' (hb0.ext ((Ext.drew _).trans hx)) (by omega)).isSl)
    refine' wpS_str rfl rfl rfl rfl Try.underlying28 Try.underlying5 Try.underlying9 rfl ?_
    refine' wpS_val (c := _) [(18, _), (22, _)] rfl rfl rfl rfl rfl ⟨rfl, rfl, trivial⟩ (fun w' hx K hK => ?run3) ?_
    case run3 => (simp [go_sem, env, asc, ValOf]; (try go_ints); exact hK)
    refine' wpS_mv (g := .val _) 23 rfl rfl rfl rfl rfl ?_
    refine' wpS_mv (g := .val _) 1 rfl rfl rfl rfl rfl ?_
    refine' wpS_call (g := (.val (.int .i64 (zn u)))) 12 _ [(25, _)] [] rfl rfl rfl rfl ⟨_, Try.func12, by kernel_rfl, by kernel_rfl⟩ rfl ⟨rfl, trivial⟩ trivial (fun w' hx => ?run4) ?_
    case run4 => (exact (size_c u hu1).gives w')
    refine' wpS_mv (g := .val _) 1 rfl rfl rfl rfl rfl ?_
    refine' wpS_call (g := (.val (.int .i64 (zn u)))) 13 _ [(27, _)] [] rfl rfl rfl rfl ⟨_, Try.func13, by kernel_rfl, by kernel_rfl⟩ rfl ⟨rfl, trivial⟩ trivial (fun w' hx => ?run5) ?_
    case run5 => (exact rsize_c u hu1 w')
    refine' wpS_val (c := _) [(26, _), (28, _)] rfl rfl rfl rfl rfl ⟨rfl, rfl, trivial⟩ (fun w' hx K hK => ?run6) ?_
    case run6 => (simp [go_sem, env, asc, ValOf]; (try go_ints); exact hK)
    first | refine' wpS_pick (g := .val _) true rfl rfl rfl rfl rfl rfl ?_ | refine' wpS_pick (g := .val _) false rfl rfl rfl rfl rfl rfl ?_
    refine' wpS_mv (g := .val _) 30 rfl rfl rfl rfl rfl ?_
    refine' wpS_mv (g := .val _) 7 rfl rfl rfl rfl rfl ?_
    refine' wpS_mv (g := .val _) 2 rfl rfl rfl rfl rfl ?_
    refine' wpS_call (g := (.rep (IsSl 1 (bytesC (l ++ zb (zfold n)))) (IsSl.stable _ _))) 14 _ [(32, _), (33, _)] [] rfl rfl rfl rfl ⟨_, Try.func14, by kernel_rfl, by kernel_rfl⟩ rfl ⟨rfl, rfl, trivial⟩ trivial (fun w' hx => ?run7) ?_
    case run7 => (exact (putint_c l _ n hn0 hn1 w' (hb1.ext ((Ext.drew _).trans hx)) (by omega)).isSl)
    refine' wpS_str rfl rfl rfl rfl Try.underlying28 Try.underlying5 Try.underlying9 rfl ?_
    refine' wpS_mv (g := .val _) 0 rfl rfl rfl rfl rfl ?_
    refine' wpS_mv (g := .val _) 2 rfl rfl rfl rfl rfl ?_
    refine' wpS_call (g := (.val (.int .u64 (zfold n)))) 15 _ [(37, _)] [] rfl rfl rfl rfl ⟨_, Try.func15, by kernel_rfl, by kernel_rfl⟩ rfl ⟨rfl, trivial⟩ trivial (fun w' hx => ?run8) ?_
    case run8 => (exact (rfold_c n hn0 hn1).gives w')
    refine' wpS_call (g := (.rep (IsSl 1 (bytesC (l ++ zb (zfold n)))) (IsSl.stable _ _))) 11 _ [(36, _), (38, _)] [] rfl rfl rfl rfl ⟨_, Try.func11, by kernel_rfl, by kernel_rfl⟩ rfl ⟨rfl, rfl, trivial⟩ trivial (fun w' hx => ?run9) ?_
    case run9 => (exact (rput_c l _ (zfold n) hzn w' (hb0.ext ((Ext.drew _).trans hx)) (by omega)).isSl)
    refine' wpS_str rfl rfl rfl rfl Try.underlying28 Try.underlying5 Try.underlying9 rfl ?_
    refine' wpS_val (c := _) [(35, _), (40, _)] rfl rfl rfl rfl rfl ⟨rfl, rfl, trivial⟩ (fun w' hx K hK => ?run10) ?_
    case run10 => (simp [go_sem, env, asc, ValOf]; (try go_ints); exact hK)
    first | refine' wpS_pick (g := .val _) true rfl rfl rfl rfl rfl rfl ?_ | refine' wpS_pick (g := .val _) false rfl rfl rfl rfl rfl rfl ?_
    refine' wpS_mv (g := .val _) 42 rfl rfl rfl rfl rfl ?_
    refine' wpS_mv (g := .val _) 2 rfl rfl rfl rfl rfl ?_
    refine' wpS_call (g := (.val (.int .u64 (zfold n)))) 7 _ [(44, _)] [] rfl rfl rfl rfl ⟨_, Try.func7, by kernel_rfl, by kernel_rfl⟩ rfl ⟨rfl, trivial⟩ trivial (fun w' hx => ?run11) ?_
    case run11 => (exact (fold_c n hn0 hn1).gives w')
    refine' wpS_mv (g := .val _) 2 rfl rfl rfl rfl rfl ?_
    refine' wpS_call (g := (.val (.int .u64 (zfold n)))) 15 _ [(46, _)] [] rfl rfl rfl rfl ⟨_, Try.func15, by kernel_rfl, by kernel_rfl⟩ rfl ⟨rfl, trivial⟩ trivial (fun w' hx => ?run12) ?_
    case run12 => (exact (rfold_c n hn0 hn1).gives w')
    refine' wpS_val (c := _) [(45, _), (47, _)] rfl rfl rfl rfl rfl ⟨rfl, rfl, trivial⟩ (fun w' hx K hK => ?run13) ?_
    case run13 => (simp [go_sem, env, asc, ValOf]; (try go_ints); exact hK)
    first | refine' wpS_pick (g := .val _) true rfl rfl rfl rfl rfl rfl ?_ | refine' wpS_pick (g := .val _) false rfl rfl rfl rfl rfl rfl ?_
    refine' wpS_mv (g := .val _) 49 rfl rfl rfl rfl rfl ?_
    refine' wpS_mv (g := .val _) 1 rfl rfl rfl rfl rfl ?_
    refine' wpS_call (g := (.val (.int .i64 (zback u)))) 8 _ [(51, _)] [] rfl rfl rfl rfl ⟨_, Try.func8, by kernel_rfl, by kernel_rfl⟩ rfl ⟨rfl, trivial⟩ trivial (fun w' hx => ?run14) ?_
    case run14 => (exact (back_c u hu1).gives w')
    refine' wpS_mv (g := .val _) 1 rfl rfl rfl rfl rfl ?_
    refine' wpS_call (g := (.val (.int .i64 (zback u)))) 16 _ [(53, _)] [] rfl rfl rfl rfl ⟨_, Try.func16, by kernel_rfl, by kernel_rfl⟩ rfl ⟨rfl, trivial⟩ trivial (fun w' hx => ?run15) ?_
    case run15 => (exact (rback_c u hu1).gives w')
    refine' wpS_val (c := _) [(52, _), (54, _)] rfl rfl rfl rfl rfl ⟨rfl, rfl, trivial⟩ (fun w' hx K hK => ?run16) ?_
    case run16 => (simp [go_sem, env, asc, ValOf]; (try go_ints); exact hK)
    first | refine' wpS_pick (g := .val _) true rfl rfl rfl rfl rfl rfl ?_ | refine' wpS_pick (g := .val _) false rfl rfl rfl rfl rfl rfl ?_
    refine' wpS_mv (g := .val _) 56 rfl rfl rfl rfl rfl ?_
    refine' wpS_mv (g := .val _) 7 rfl rfl rfl rfl rfl ?_
    first | refine' wpS_strV rfl rfl rfl rfl Try.underlying28 Try.underlying5 Try.underlying9 rfl hb0 ?_ | refine' wpS_strV rfl rfl rfl rfl Try.underlying28 Try.underlying5 Try.underlying9 rfl hb1 ?_
    refine' wpS_mv (g := .val _) 0 rfl rfl rfl rfl rfl ?_
    first | refine' wpS_strV rfl rfl rfl rfl Try.underlying28 Try.underlying5 Try.underlying9 rfl hb0 ?_ | refine' wpS_strV rfl rfl rfl rfl Try.underlying28 Try.underlying5 Try.underlying9 rfl hb1 ?_
    refine' wpS_val (c := _) [(59, _), (61, _)] rfl rfl rfl rfl rfl ⟨rfl, rfl, trivial⟩ (fun w' hx K hK => ?run17) ?_
    case run17 => (simp [go_sem, env, asc, ValOf]; (try go_ints); exact hK)
    first | refine' wpS_pick (g := .val _) true rfl rfl rfl rfl rfl rfl ?_ | refine' wpS_pick (g := .val _) false rfl rfl rfl rfl rfl rfl ?_
    refine' wpS_mv (g := .val _) 63 rfl rfl rfl rfl rfl ?_
    refine' wpS_call (g := (.val (.bool true))) 9 _ [] [] rfl rfl rfl rfl ⟨_, Try.func9, by kernel_rfl, by kernel_rfl⟩ rfl trivial trivial (fun w' hx => ?run18) ?_
    case run18 => (exact awake_c w')
    first | refine' wpS_pick (g := .val _) true rfl rfl rfl rfl rfl rfl ?_ | refine' wpS_pick (g := .val _) false rfl rfl rfl rfl rfl rfl ?_
    refine' wpS_mv (g := .val _) 66 rfl rfl rfl rfl rfl ?_
    refine wpS_end ?_
    intro w2 e2
    iterate 17 (refine finV rfl ?_)
    refine finR rfl ?_
    intro x17 hx17
    iterate 3 (refine finV rfl ?_)
    refine finR rfl ?_
    intro x21 hx21
    iterate 12 (refine finV rfl ?_)
    refine finR rfl ?_
    intro x34 hx34
    iterate 4 (refine finV rfl ?_)
    refine finR rfl ?_
    intro x39 hx39
    iterate 27 (refine finV rfl ?_)
    refine finE ?_
    try dsimp only
    refine wpList_nil ?_
    (go_wp2; go_ret; exact ⟨_, rfl, hx1.trans ((Ext.drew _).trans e2), rfl⟩)
theorem own_ZigLays : ownKnob Try.prog.godebug = none := by kernel_rfl
theorem laidOut_ZigLays : laidOutB Try.prog = true := by kernel_rfl
set_option maxRecDepth 100000 in
theorem lifted_ZigLays (os : Os) (started : os.Started) (H : Type) (enc : TypeId × Value → H) :
    ReturnsInHanded {} Try.checked os 4 .any (Rows.zigLaysSpec.pre6 enc Try.prog Try.f4 Rows.zigLaysRow.domain false) (Rows.zigLaysSpec.post enc Try.prog Try.f4 false true false false) := by
  refine returnsInHanded_of_change (C := Try.checked) own_ZigLays started (by kernel_rfl) Try.func4
    (ChangeSpec.witness6 (enc := enc) (C := Try.checked) false ⟨#[], #[.slice none 0 0, .int .u64 0, .int .i64 0], []⟩ 8 (by kernel_rfl) (by kernel_rfl) (by kernel_rfl) (by kernel_rfl)) ?_
  intro W base args ds gs before hval0 hW hcnd _
  have hval : ∀ (j : Nat) t v, Try.f4.params[j]? = some t → args[j]? = some v → Value.okWide Try.prog W .any base t v := hval0
  have hW' := hW
  obtain ⟨p, q, hA0, hV, rfl, hfz, hnd⟩ := hW
  have hA : DataW.TrodAll enc Try.prog W 0 (fun _ => true) true Try.f4.params.toList args.toList ds p := hA0
  rw [Try.params4] at hA hval
  have hAll := hA
  obtain ⟨v0, vs0, d0, ds0, p0, q0, hargs, rfl, rfl, h0, r0⟩ := trodAll_cons hA
  obtain ⟨v1, vs1, d1, ds1, p1, q1, rfl, rfl, rfl, h1, r1⟩ := trodAll_cons r0
  obtain ⟨v2, vs2, d2, ds2, p2, q2, rfl, rfl, rfl, h2, r2⟩ := trodAll_cons r1
  obtain ⟨rfl, rfl, rfl⟩ := trodAll_nil r2
  obtain rfl : args = #[v0, v1, v2] := by cases args; simp_all
  obtain ⟨rfl, rfl⟩ := trodVars_none hV
  obtain ⟨l0, w0⟩ := op_bytes Try.underlying28 Try.underlying5 (by kernel_rfl) (hval 0 28 v0 rfl rfl) h0
  obtain ⟨a1, rfl, rfl, rfl, w1⟩ := open_int Try.underlying23 (hval 1 23 v1 rfl rfl) h1
  obtain ⟨a2, rfl, rfl, rfl, w2⟩ := open_int Try.underlying3 (hval 2 3 v2 rfl rfl) h2
  clear hA0 hval0
  refine Calls.mono (law_ZigLays W v0 l0 w0 a1 (bounds_u64 w1) a2 (bounds_i64 w2)) fun e W' ⟨v, he, bel, hv⟩ => ?_
  subst he
  subst hv
  exact ⟨_, rfl, _, _, _, [], _, [], hW', trodAll_mk1 (shut_bool Try.underlying4 _), trodAll_below laidOut_ZigLays bel (by kernel_rfl) hAll, rfl, bel.frame _, fun h => by cases h⟩
/-- The statement. -/
theorem holds_ZigLays : Rows.ZigLaysSaid :=
  OpenClaim.holds_of_wide 4 Try.f4 rfl rfl rfl rfl rfl rfl rfl ⟨rfl, rfl, rfl, rfl, rfl⟩ rfl rfl rfl rfl rfl (by kernel_rfl) Try.func4 (by kernel_rfl)
    (of_decide_eq_true (by kernel_rfl)) (by unfold Func.isWrapper; first | (rw [if_pos (by decide +kernel)]; kernel_rfl) | (rw [if_neg (by decide +kernel)]; exact ⟨rfl, rfl⟩))
    (fun os started H enc _ => lifted_ZigLays os started H enc)
end Go.Proofs.Ytnhabcmemadgcaa
