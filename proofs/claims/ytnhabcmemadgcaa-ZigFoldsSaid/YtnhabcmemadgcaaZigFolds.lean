/- ZigFolds: for every two whole numbers and every number the law returns true. No condition. -/
import Derived.Test.YtnhabcmemadgcaaZigA
import Derived.Test.YtnhabcmemadgcaaFrame
import Derived.Test.YtnhabcmemadgcaaRows
import Derived.Deep.DeepCutAuto
namespace Go.Proofs.Ytnhabcmemadgcaa
open Go.ChangeShapes Go.WideShapes Go.ChangeAt Go.RowKit
open Go.ChangeMaps (open_string shut_string)
set_option linter.unusedVariables false

/-- How far a whole number is from 0, or from -1, if it is below 0. -/
def znear (x : Int) : Int := if x < 0 then -(x + 1) else x
theorem znear_neg {x : Int} (h : x < 0) : -(x + 1) = znear x := by unfold znear; rw [if_pos h]
theorem znear_pos {x : Int} (h : ¬ x < 0) : x = znear x := by unfold znear; rw [if_neg h]
theorem zfold_near {x y : Int} (h : znear x < znear y) : zfold x < zfold y := by
  unfold znear at h; unfold zfold
  by_cases hx : x < 0 <;> by_cases hy : y < 0 <;> simp only [hx, hy, if_true, if_false] at h ⊢ <;> omega
theorem zfold_next {x y : Int} (h : znear x = znear y) (hx : ¬ x < 0) (hy : y < 0) : zfold x + 1 = zfold y := by
  unfold znear at h; unfold zfold; rw [if_neg hx] at *; rw [if_pos hy] at *; omega
theorem zfold_odd (x : Int) : (((zfold x : Nat) : Int) % 2 == 1) = decide (x < 0) := by
  rw [Bool.eq_iff_iff]; simp; unfold zfold; split <;> omega
set_option maxRecDepth 100000 in
set_option maxHeartbeats 8000000 in
theorem law_ZigFolds (w : World) (l : List Int) (hl : l.length = 2) (hw : ∀ n ∈ l, (Lit.int .i64 n).wf = true) (u : Int) (hu : 0 ≤ u ∧ u ≤ 18446744073709551615) :
    Gives Try.prog 3 #[.agg (l.map (.int .i64)).toArray, .int .u64 u] w (Is (.bool true)) := by
  match l, hl with
  | [x, y], _ =>
    have hx := bounds_i64 (hw x (by simp))
    have hy := bounds_i64 (hw y (by simp))
    clear hw
    obtain ⟨hx0, hx1⟩ := hx
    obtain ⟨hy0, hy1⟩ := hy
    obtain ⟨u, rfl⟩ := Int.eq_ofNat_of_zero_le hu.1
    have hu1 : u < 18446744073709551616 := by omega
    clear hu
    simp only [List.map_cons, List.map_nil]
    go_enter Try.func3, Try.ntmps3
    go_wp2
    have c0 : (w.alloc (.cells #[.int .i64 x, .int .i64 y] 22)).drew.cell? ⟨w.heap.size, 0, none⟩ = some (.int .i64 x) := by simp
    have c1 : (w.alloc (.cells #[.int .i64 x, .int .i64 y] 22)).drew.cell? ⟨w.heap.size, 1, none⟩ = some (.int .i64 y) := by simp
    refine wp_region_S0 _ (by kernel_rfl) (by kernel_rfl) ?_
    refine' wpS_val (c := _) [(2, _)] rfl rfl rfl rfl rfl ⟨rfl, trivial⟩ (fun w' hx K hK => ?run1) ?_
    case run1 => (simp [go_sem, env, asc, ValOf]; exact hK)
    first | refine' wpS_load _ rfl rfl rfl rfl (by rw [Try.underlying3]; rfl) rfl c0 ?_ | refine' wpS_load _ rfl rfl rfl rfl (by rw [Try.underlying3]; rfl) rfl c1 ?_
    refine' wpS_call (g := (.val (.int .u64 (zfold x)))) 7 _ [(10, _)] [] rfl rfl rfl rfl ⟨_, Try.func7, by kernel_rfl, by kernel_rfl⟩ rfl ⟨rfl, trivial⟩ trivial (fun w' hx => ?run2) ?_
    case run2 => (exact (fold_c x hx0 hx1).gives w')
    refine' wpS_val (c := _) [(2, _)] rfl rfl rfl rfl rfl ⟨rfl, trivial⟩ (fun w' hx K hK => ?run3) ?_
    case run3 => (simp [go_sem, env, asc, ValOf]; exact hK)
    first | refine' wpS_load _ rfl rfl rfl rfl (by rw [Try.underlying3]; rfl) rfl c0 ?_ | refine' wpS_load _ rfl rfl rfl rfl (by rw [Try.underlying3]; rfl) rfl c1 ?_
    refine' wpS_call (g := (.val (.int .u64 (zfold y)))) 7 _ [(13, _)] [] rfl rfl rfl rfl ⟨_, Try.func7, by kernel_rfl, by kernel_rfl⟩ rfl ⟨rfl, trivial⟩ trivial (fun w' hx => ?run4) ?_
    case run4 => (exact (fold_c y hy0 hy1).gives w')
    refine' wpS_mv (g := .val _) 11 rfl rfl rfl rfl rfl ?_
    refine' wpS_mv (g := .val _) 14 rfl rfl rfl rfl rfl ?_
    refine wpS_end ?_
    intro w1 hx'
    iterate 91 (refine finV rfl ?_)
    refine finE ?_
    try dsimp only
    refine wpList_nil ?_
    have d0 := cell_ext hx' c0
    have d1 := cell_ext hx' c1
    clear c0 c1
    go_wp2
    refine wp_region_S0 _ (by kernel_rfl) (by kernel_rfl) ?_
    refine' wpS_val (c := _) [(2, _)] rfl rfl rfl rfl rfl ⟨rfl, trivial⟩ (fun w' hx K hK => ?run5) ?_
    case run5 => (simp [go_sem, env, asc, ValOf]; exact hK)
    first | refine' wpS_load _ rfl rfl rfl rfl (by rw [Try.underlying3]; rfl) rfl d0 ?_ | refine' wpS_load _ rfl rfl rfl rfl (by rw [Try.underlying3]; rfl) rfl d1 ?_
    refine' wpS_val (c := _) [(2, _)] rfl rfl rfl rfl rfl ⟨rfl, trivial⟩ (fun w' hx K hK => ?run6) ?_
    case run6 => (simp [go_sem, env, asc, ValOf]; exact hK)
    first | refine' wpS_load _ rfl rfl rfl rfl (by rw [Try.underlying3]; rfl) rfl d0 ?_ | refine' wpS_load _ rfl rfl rfl rfl (by rw [Try.underlying3]; rfl) rfl d1 ?_
    refine' wpS_mv (g := .val _) 16 rfl rfl rfl rfl rfl ?_
    refine' wpS_mv (g := .val _) 18 rfl rfl rfl rfl rfl ?_
    refine wpS_end ?_
    intro w2 e2
    iterate 91 (refine finV rfl ?_)
    refine finE ?_
    try dsimp only
    refine wpList_nil ?_
    have f0 := cell_ext ((Ext.drew _).trans e2) d0
    have f1 := cell_ext ((Ext.drew _).trans e2) d1
    clear d0 d1
    go_upto_if 20 with fail
    go_cut [7] (fun s wx => s = .int .i64 (znear x) ∧ wx = w2)
    case first =>
      by_cases hxn : x < 0
      · go_wp2
        go_meet
        exact ⟨is_int (by unfold znear; split <;> omega), rfl⟩
      · go_wp2
        go_meet
        exact ⟨is_int (by unfold znear; split <;> omega), rfl⟩
    case rest =>
    obtain ⟨rfl, rfl⟩ := hcut
    go_upto_if 25 with fail
    go_cut [8] (fun s wx => s = .int .i64 (znear y) ∧ wx = wc)
    case first =>
      by_cases hyn : y < 0
      · go_wp2
        go_meet
        exact ⟨is_int (by unfold znear; split <;> omega), rfl⟩
      · go_wp2
        go_meet
        exact ⟨is_int (by unfold znear; split <;> omega), rfl⟩
    case rest =>
    obtain ⟨rfl, rfl⟩ := hcut
    go_wp2
    have e82 := zfold_odd x
    rcases Int.lt_trichotomy (znear x) (znear y) with ho | ho | ho
    · have e51 : decide (znear y ≤ znear x) = false := by simpa using ho
      have e61 : (znear x != znear y) = true := by simp; omega
      have e55 : decide (zfold x < zfold y) = true := by simpa using zfold_near ho
      refine wp_region_S0 _ (by kernel_rfl) (by kernel_rfl) ?_
      refine' wpS_mv (g := .val _) 5 rfl rfl rfl rfl rfl ?_
      refine' wpS_call (g := (.val (.int .i64 x))) 8 _ [(29, _)] [] rfl rfl rfl rfl ⟨_, Try.func8, by kernel_rfl, by kernel_rfl⟩ rfl ⟨rfl, trivial⟩ trivial (fun w' hx => ?run7) ?_
      case run7 => (exact (by have := (back_c (zfold x) (zfold_lt x hx0 hx1)).gives w'; rwa [zback_fold] at this))
      refine' wpS_val (c := _) [(2, _)] rfl rfl rfl rfl rfl ⟨rfl, trivial⟩ (fun w' hx K hK => ?run8) ?_
      case run8 => (simp [go_sem, env, asc, ValOf]; exact hK)
      first | refine' wpS_load _ rfl rfl rfl rfl (by rw [Try.underlying3]; rfl) rfl f0 ?_ | refine' wpS_load _ rfl rfl rfl rfl (by rw [Try.underlying3]; rfl) rfl f1 ?_
      refine' wpS_val (c := _) [(30, _), (32, _)] rfl rfl rfl rfl rfl ⟨rfl, rfl, trivial⟩ (fun w' hx K hK => ?run9) ?_
      case run9 => (simp [go_sem, env, asc, ValOf]; (try go_ints); (first | simp only [e82] | simp only [e51] | simp only [e61] | simp only [e55] | skip); exact hK)
      refine' wpS_mv (g := .val _) 33 rfl rfl rfl rfl rfl ?_
      refine' wpS_mv (g := .val _) 6 rfl rfl rfl rfl rfl ?_
      refine' wpS_call (g := (.val (.int .i64 y))) 8 _ [(35, _)] [] rfl rfl rfl rfl ⟨_, Try.func8, by kernel_rfl, by kernel_rfl⟩ rfl ⟨rfl, trivial⟩ trivial (fun w' hx => ?run10) ?_
      case run10 => (exact (by have := (back_c (zfold y) (zfold_lt y hy0 hy1)).gives w'; rwa [zback_fold] at this))
      refine' wpS_val (c := _) [(2, _)] rfl rfl rfl rfl rfl ⟨rfl, trivial⟩ (fun w' hx K hK => ?run11) ?_
      case run11 => (simp [go_sem, env, asc, ValOf]; exact hK)
      first | refine' wpS_load _ rfl rfl rfl rfl (by rw [Try.underlying3]; rfl) rfl f0 ?_ | refine' wpS_load _ rfl rfl rfl rfl (by rw [Try.underlying3]; rfl) rfl f1 ?_
      refine' wpS_val (c := _) [(36, _), (38, _)] rfl rfl rfl rfl rfl ⟨rfl, rfl, trivial⟩ (fun w' hx K hK => ?run12) ?_
      case run12 => (simp [go_sem, env, asc, ValOf]; (try go_ints); (first | simp only [e82] | simp only [e51] | simp only [e61] | simp only [e55] | skip); exact hK)
      first | refine' wpS_pick (g := .val _) true rfl rfl rfl rfl rfl rfl ?_ | refine' wpS_pick (g := .val _) false rfl rfl rfl rfl rfl rfl ?_
      refine' wpS_mv (g := .val _) 40 rfl rfl rfl rfl rfl ?_
      refine' wpS_mv (g := .val _) 1 rfl rfl rfl rfl rfl ?_
      refine' wpS_call (g := (.val (.int .i64 (zback u)))) 8 _ [(42, _)] [] rfl rfl rfl rfl ⟨_, Try.func8, by kernel_rfl, by kernel_rfl⟩ rfl ⟨rfl, trivial⟩ trivial (fun w' hx => ?run13) ?_
      case run13 => (exact (back_c u hu1).gives w')
      refine' wpS_call (g := (.val (.int .u64 u))) 7 _ [(43, _)] [] rfl rfl rfl rfl ⟨_, Try.func7, by kernel_rfl, by kernel_rfl⟩ rfl ⟨rfl, trivial⟩ trivial (fun w' hx => ?run14) ?_
      case run14 => (exact (by have := (fold_c (zback u) (zback_lo u hu1) (zback_hi u hu1)).gives w'; rwa [zfold_back] at this))
      refine' wpS_mv (g := .val _) 1 rfl rfl rfl rfl rfl ?_
      refine' wpS_val (c := _) [(44, _), (45, _)] rfl rfl rfl rfl rfl ⟨rfl, rfl, trivial⟩ (fun w' hx K hK => ?run15) ?_
      case run15 => (simp [go_sem, env, asc, ValOf]; (try go_ints); (first | simp only [e82] | simp only [e51] | simp only [e61] | simp only [e55] | skip); exact hK)
      first | refine' wpS_pick (g := .val _) true rfl rfl rfl rfl rfl rfl ?_ | refine' wpS_pick (g := .val _) false rfl rfl rfl rfl rfl rfl ?_
      refine' wpS_mv (g := .val _) 47 rfl rfl rfl rfl rfl ?_
      refine' wpS_mv (g := .val _) 7 rfl rfl rfl rfl rfl ?_
      refine' wpS_mv (g := .val _) 8 rfl rfl rfl rfl rfl ?_
      refine' wpS_val (c := _) [(49, _), (50, _)] rfl rfl rfl rfl rfl ⟨rfl, rfl, trivial⟩ (fun w' hx K hK => ?run16) ?_
      case run16 => (simp [go_sem, env, asc, ValOf]; (try go_ints); (first | simp only [e82] | simp only [e51] | simp only [e61] | simp only [e55] | skip); exact hK)
      refine' wpS_mv (g := .val _) 51 rfl rfl rfl rfl rfl ?_
      refine' wpS_mv (g := .val _) 5 rfl rfl rfl rfl rfl ?_
      refine' wpS_mv (g := .val _) 6 rfl rfl rfl rfl rfl ?_
      refine' wpS_val (c := _) [(53, _), (54, _)] rfl rfl rfl rfl rfl ⟨rfl, rfl, trivial⟩ (fun w' hx K hK => ?run17) ?_
      case run17 => (simp [go_sem, env, asc, ValOf]; (try go_ints); (first | simp only [e82] | simp only [e51] | simp only [e61] | simp only [e55] | skip); exact hK)
      first | refine' wpS_pick (g := .val _) true rfl rfl rfl rfl rfl rfl ?_ | refine' wpS_pick (g := .val _) false rfl rfl rfl rfl rfl rfl ?_
      first | refine' wpS_pick (g := .val _) true rfl rfl rfl rfl rfl rfl ?_ | refine' wpS_pick (g := .val _) false rfl rfl rfl rfl rfl rfl ?_
      refine' wpS_mv (g := .val _) 57 rfl rfl rfl rfl rfl ?_
      refine' wpS_mv (g := .val _) 7 rfl rfl rfl rfl rfl ?_
      refine' wpS_mv (g := .val _) 8 rfl rfl rfl rfl rfl ?_
      refine' wpS_val (c := _) [(59, _), (60, _)] rfl rfl rfl rfl rfl ⟨rfl, rfl, trivial⟩ (fun w' hx K hK => ?run18) ?_
      case run18 => (simp [go_sem, env, asc, ValOf]; (try go_ints); (first | simp only [e82] | simp only [e51] | simp only [e61] | simp only [e55] | skip); exact hK)
      refine' wpS_mv (g := .val _) 61 rfl rfl rfl rfl rfl ?_
      refine wpS_skip rfl rfl rfl ?_
      refine wpS_skip rfl rfl rfl ?_
      refine wpS_skip rfl rfl rfl ?_
      first | refine' wpS_pick (g := .val _) true rfl rfl rfl rfl rfl rfl ?_ | refine' wpS_pick (g := .val _) false rfl rfl rfl rfl rfl rfl ?_
      refine' wpS_mv (g := .val _) 66 rfl rfl rfl rfl rfl ?_
      refine wpS_skip rfl rfl rfl ?_
      refine wpS_skip rfl rfl rfl ?_
      refine wpS_skip rfl rfl rfl ?_
      first | refine' wpS_pick (g := .val _) true rfl rfl rfl rfl rfl rfl ?_ | refine' wpS_pick (g := .val _) false rfl rfl rfl rfl rfl rfl ?_
      refine' wpS_mv (g := .val _) 71 rfl rfl rfl rfl rfl ?_
      refine wpS_skip rfl rfl rfl ?_
      refine wpS_skip rfl rfl rfl ?_
      refine wpS_skip rfl rfl rfl ?_
      refine wpS_skip rfl rfl rfl ?_
      first | refine' wpS_pick (g := .val _) true rfl rfl rfl rfl rfl rfl ?_ | refine' wpS_pick (g := .val _) false rfl rfl rfl rfl rfl rfl ?_
      first | refine' wpS_pick (g := .val _) true rfl rfl rfl rfl rfl rfl ?_ | refine' wpS_pick (g := .val _) false rfl rfl rfl rfl rfl rfl ?_
      refine' wpS_mv (g := .val _) 78 rfl rfl rfl rfl rfl ?_
      refine' wpS_mv (g := .val _) 5 rfl rfl rfl rfl rfl ?_
      refine' wpS_val (c := _) [(80, _)] rfl rfl rfl rfl rfl ⟨rfl, trivial⟩ (fun w' hx K hK => ?run19) ?_
      case run19 => (simp [go_sem, env, asc, ValOf]; (try go_ints); (first | simp only [e82] | simp only [e51] | simp only [e61] | simp only [e55] | skip); exact hK)
      refine' wpS_val (c := _) [(81, _)] rfl rfl rfl rfl rfl ⟨rfl, trivial⟩ (fun w' hx K hK => ?run20) ?_
      case run20 => (simp [go_sem, env, asc, ValOf]; (try go_ints); (first | simp only [e82] | simp only [e51] | simp only [e61] | simp only [e55] | skip); exact hK)
      refine' wpS_val (c := _) [(2, _)] rfl rfl rfl rfl rfl ⟨rfl, trivial⟩ (fun w' hx K hK => ?run21) ?_
      case run21 => (simp [go_sem, env, asc, ValOf]; exact hK)
      first | refine' wpS_load _ rfl rfl rfl rfl (by rw [Try.underlying3]; rfl) rfl f0 ?_ | refine' wpS_load _ rfl rfl rfl rfl (by rw [Try.underlying3]; rfl) rfl f1 ?_
      refine' wpS_val (c := _) [(84, _)] rfl rfl rfl rfl rfl ⟨rfl, trivial⟩ (fun w' hx K hK => ?run22) ?_
      case run22 => (simp [go_sem, env, asc, ValOf]; (try go_ints); (first | simp only [e82] | simp only [e51] | simp only [e61] | simp only [e55] | skip); exact hK)
      refine' wpS_val (c := _) [(82, _), (85, _)] rfl rfl rfl rfl rfl ⟨rfl, rfl, trivial⟩ (fun w' hx K hK => ?run23) ?_
      case run23 => (simp [go_sem, env, asc, ValOf]; (try go_ints); (first | simp only [e82] | simp only [e51] | simp only [e61] | simp only [e55] | skip); exact hK)
      first | refine' wpS_pick (g := .val _) true rfl rfl rfl rfl rfl rfl ?_ | refine' wpS_pick (g := .val _) false rfl rfl rfl rfl rfl rfl ?_
      refine' wpS_mv (g := .val _) 87 rfl rfl rfl rfl rfl ?_
      refine' wpS_call (g := (.val (.bool true))) 9 _ [] [] rfl rfl rfl rfl ⟨_, Try.func9, by kernel_rfl, by kernel_rfl⟩ rfl trivial trivial (fun w' hx => ?run24) ?_
      case run24 => (exact awake_c w')
      first | refine' wpS_pick (g := .val _) true rfl rfl rfl rfl rfl rfl ?_ | refine' wpS_pick (g := .val _) false rfl rfl rfl rfl rfl rfl ?_
      refine' wpS_mv (g := .val _) 90 rfl rfl rfl rfl rfl ?_
      refine wpS_end ?_
      intro w3 e3
      iterate 91 (refine finV rfl ?_)
      refine finE ?_
      try dsimp only
      refine wpList_nil ?_
      (go_wp2; go_ret; exact ⟨_, rfl, (Ext.alloc _ _).trans ((Ext.drew _).trans (hx'.trans ((Ext.drew _).trans (e2.trans ((Ext.drew _).trans e3))))), rfl⟩)
    · have e51 : decide (znear y ≤ znear x) = true := by simp; omega
      have e61 : (znear x != znear y) = false := by simp; omega
      by_cases hxn : x < 0
      · have e65 : decide (x < 0) = true := by simpa using hxn
        refine wp_region_S0 _ (by kernel_rfl) (by kernel_rfl) ?_
        refine' wpS_mv (g := .val _) 5 rfl rfl rfl rfl rfl ?_
        refine' wpS_call (g := (.val (.int .i64 x))) 8 _ [(29, _)] [] rfl rfl rfl rfl ⟨_, Try.func8, by kernel_rfl, by kernel_rfl⟩ rfl ⟨rfl, trivial⟩ trivial (fun w' hx => ?run25) ?_
        case run25 => (exact (by have := (back_c (zfold x) (zfold_lt x hx0 hx1)).gives w'; rwa [zback_fold] at this))
        refine' wpS_val (c := _) [(2, _)] rfl rfl rfl rfl rfl ⟨rfl, trivial⟩ (fun w' hx K hK => ?run26) ?_
        case run26 => (simp [go_sem, env, asc, ValOf]; exact hK)
        first | refine' wpS_load _ rfl rfl rfl rfl (by rw [Try.underlying3]; rfl) rfl f0 ?_ | refine' wpS_load _ rfl rfl rfl rfl (by rw [Try.underlying3]; rfl) rfl f1 ?_
        refine' wpS_val (c := _) [(30, _), (32, _)] rfl rfl rfl rfl rfl ⟨rfl, rfl, trivial⟩ (fun w' hx K hK => ?run27) ?_
        case run27 => (simp [go_sem, env, asc, ValOf]; (try go_ints); (first | simp only [e82] | simp only [e51] | simp only [e61] | simp only [e65] | skip); exact hK)
        refine' wpS_mv (g := .val _) 33 rfl rfl rfl rfl rfl ?_
        refine' wpS_mv (g := .val _) 6 rfl rfl rfl rfl rfl ?_
        refine' wpS_call (g := (.val (.int .i64 y))) 8 _ [(35, _)] [] rfl rfl rfl rfl ⟨_, Try.func8, by kernel_rfl, by kernel_rfl⟩ rfl ⟨rfl, trivial⟩ trivial (fun w' hx => ?run28) ?_
        case run28 => (exact (by have := (back_c (zfold y) (zfold_lt y hy0 hy1)).gives w'; rwa [zback_fold] at this))
        refine' wpS_val (c := _) [(2, _)] rfl rfl rfl rfl rfl ⟨rfl, trivial⟩ (fun w' hx K hK => ?run29) ?_
        case run29 => (simp [go_sem, env, asc, ValOf]; exact hK)
        first | refine' wpS_load _ rfl rfl rfl rfl (by rw [Try.underlying3]; rfl) rfl f0 ?_ | refine' wpS_load _ rfl rfl rfl rfl (by rw [Try.underlying3]; rfl) rfl f1 ?_
        refine' wpS_val (c := _) [(36, _), (38, _)] rfl rfl rfl rfl rfl ⟨rfl, rfl, trivial⟩ (fun w' hx K hK => ?run30) ?_
        case run30 => (simp [go_sem, env, asc, ValOf]; (try go_ints); (first | simp only [e82] | simp only [e51] | simp only [e61] | simp only [e65] | skip); exact hK)
        first | refine' wpS_pick (g := .val _) true rfl rfl rfl rfl rfl rfl ?_ | refine' wpS_pick (g := .val _) false rfl rfl rfl rfl rfl rfl ?_
        refine' wpS_mv (g := .val _) 40 rfl rfl rfl rfl rfl ?_
        refine' wpS_mv (g := .val _) 1 rfl rfl rfl rfl rfl ?_
        refine' wpS_call (g := (.val (.int .i64 (zback u)))) 8 _ [(42, _)] [] rfl rfl rfl rfl ⟨_, Try.func8, by kernel_rfl, by kernel_rfl⟩ rfl ⟨rfl, trivial⟩ trivial (fun w' hx => ?run31) ?_
        case run31 => (exact (back_c u hu1).gives w')
        refine' wpS_call (g := (.val (.int .u64 u))) 7 _ [(43, _)] [] rfl rfl rfl rfl ⟨_, Try.func7, by kernel_rfl, by kernel_rfl⟩ rfl ⟨rfl, trivial⟩ trivial (fun w' hx => ?run32) ?_
        case run32 => (exact (by have := (fold_c (zback u) (zback_lo u hu1) (zback_hi u hu1)).gives w'; rwa [zfold_back] at this))
        refine' wpS_mv (g := .val _) 1 rfl rfl rfl rfl rfl ?_
        refine' wpS_val (c := _) [(44, _), (45, _)] rfl rfl rfl rfl rfl ⟨rfl, rfl, trivial⟩ (fun w' hx K hK => ?run33) ?_
        case run33 => (simp [go_sem, env, asc, ValOf]; (try go_ints); (first | simp only [e82] | simp only [e51] | simp only [e61] | simp only [e65] | skip); exact hK)
        first | refine' wpS_pick (g := .val _) true rfl rfl rfl rfl rfl rfl ?_ | refine' wpS_pick (g := .val _) false rfl rfl rfl rfl rfl rfl ?_
        refine' wpS_mv (g := .val _) 47 rfl rfl rfl rfl rfl ?_
        refine' wpS_mv (g := .val _) 7 rfl rfl rfl rfl rfl ?_
        refine' wpS_mv (g := .val _) 8 rfl rfl rfl rfl rfl ?_
        refine' wpS_val (c := _) [(49, _), (50, _)] rfl rfl rfl rfl rfl ⟨rfl, rfl, trivial⟩ (fun w' hx K hK => ?run34) ?_
        case run34 => (simp [go_sem, env, asc, ValOf]; (try go_ints); (first | simp only [e82] | simp only [e51] | simp only [e61] | simp only [e65] | skip); exact hK)
        refine' wpS_mv (g := .val _) 51 rfl rfl rfl rfl rfl ?_
        refine wpS_skip rfl rfl rfl ?_
        refine wpS_skip rfl rfl rfl ?_
        refine wpS_skip rfl rfl rfl ?_
        first | refine' wpS_pick (g := .val _) true rfl rfl rfl rfl rfl rfl ?_ | refine' wpS_pick (g := .val _) false rfl rfl rfl rfl rfl rfl ?_
        first | refine' wpS_pick (g := .val _) true rfl rfl rfl rfl rfl rfl ?_ | refine' wpS_pick (g := .val _) false rfl rfl rfl rfl rfl rfl ?_
        refine' wpS_mv (g := .val _) 57 rfl rfl rfl rfl rfl ?_
        refine' wpS_mv (g := .val _) 7 rfl rfl rfl rfl rfl ?_
        refine' wpS_mv (g := .val _) 8 rfl rfl rfl rfl rfl ?_
        refine' wpS_val (c := _) [(59, _), (60, _)] rfl rfl rfl rfl rfl ⟨rfl, rfl, trivial⟩ (fun w' hx K hK => ?run35) ?_
        case run35 => (simp [go_sem, env, asc, ValOf]; (try go_ints); (first | simp only [e82] | simp only [e51] | simp only [e61] | simp only [e65] | skip); exact hK)
        refine' wpS_mv (g := .val _) 61 rfl rfl rfl rfl rfl ?_
        refine' wpS_val (c := _) [(2, _)] rfl rfl rfl rfl rfl ⟨rfl, trivial⟩ (fun w' hx K hK => ?run36) ?_
        case run36 => (simp [go_sem, env, asc, ValOf]; exact hK)
        first | refine' wpS_load _ rfl rfl rfl rfl (by rw [Try.underlying3]; rfl) rfl f0 ?_ | refine' wpS_load _ rfl rfl rfl rfl (by rw [Try.underlying3]; rfl) rfl f1 ?_
        refine' wpS_val (c := _) [(64, _)] rfl rfl rfl rfl rfl ⟨rfl, trivial⟩ (fun w' hx K hK => ?run37) ?_
        case run37 => (simp [go_sem, env, asc, ValOf]; (try go_ints); (first | simp only [e82] | simp only [e51] | simp only [e61] | simp only [e65] | skip); exact hK)
        first | refine' wpS_pick (g := .val _) true rfl rfl rfl rfl rfl rfl ?_ | refine' wpS_pick (g := .val _) false rfl rfl rfl rfl rfl rfl ?_
        refine' wpS_mv (g := .val _) 66 rfl rfl rfl rfl rfl ?_
        refine wpS_skip rfl rfl rfl ?_
        refine wpS_skip rfl rfl rfl ?_
        refine wpS_skip rfl rfl rfl ?_
        first | refine' wpS_pick (g := .val _) true rfl rfl rfl rfl rfl rfl ?_ | refine' wpS_pick (g := .val _) false rfl rfl rfl rfl rfl rfl ?_
        refine' wpS_mv (g := .val _) 71 rfl rfl rfl rfl rfl ?_
        refine wpS_skip rfl rfl rfl ?_
        refine wpS_skip rfl rfl rfl ?_
        refine wpS_skip rfl rfl rfl ?_
        refine wpS_skip rfl rfl rfl ?_
        first | refine' wpS_pick (g := .val _) true rfl rfl rfl rfl rfl rfl ?_ | refine' wpS_pick (g := .val _) false rfl rfl rfl rfl rfl rfl ?_
        first | refine' wpS_pick (g := .val _) true rfl rfl rfl rfl rfl rfl ?_ | refine' wpS_pick (g := .val _) false rfl rfl rfl rfl rfl rfl ?_
        refine' wpS_mv (g := .val _) 78 rfl rfl rfl rfl rfl ?_
        refine' wpS_mv (g := .val _) 5 rfl rfl rfl rfl rfl ?_
        refine' wpS_val (c := _) [(80, _)] rfl rfl rfl rfl rfl ⟨rfl, trivial⟩ (fun w' hx K hK => ?run38) ?_
        case run38 => (simp [go_sem, env, asc, ValOf]; (try go_ints); (first | simp only [e82] | simp only [e51] | simp only [e61] | simp only [e65] | skip); exact hK)
        refine' wpS_val (c := _) [(81, _)] rfl rfl rfl rfl rfl ⟨rfl, trivial⟩ (fun w' hx K hK => ?run39) ?_
        case run39 => (simp [go_sem, env, asc, ValOf]; (try go_ints); (first | simp only [e82] | simp only [e51] | simp only [e61] | simp only [e65] | skip); exact hK)
        refine' wpS_val (c := _) [(2, _)] rfl rfl rfl rfl rfl ⟨rfl, trivial⟩ (fun w' hx K hK => ?run40) ?_
        case run40 => (simp [go_sem, env, asc, ValOf]; exact hK)
        first | refine' wpS_load _ rfl rfl rfl rfl (by rw [Try.underlying3]; rfl) rfl f0 ?_ | refine' wpS_load _ rfl rfl rfl rfl (by rw [Try.underlying3]; rfl) rfl f1 ?_
        refine' wpS_val (c := _) [(84, _)] rfl rfl rfl rfl rfl ⟨rfl, trivial⟩ (fun w' hx K hK => ?run41) ?_
        case run41 => (simp [go_sem, env, asc, ValOf]; (try go_ints); (first | simp only [e82] | simp only [e51] | simp only [e61] | simp only [e65] | skip); exact hK)
        refine' wpS_val (c := _) [(82, _), (85, _)] rfl rfl rfl rfl rfl ⟨rfl, rfl, trivial⟩ (fun w' hx K hK => ?run42) ?_
        case run42 => (simp [go_sem, env, asc, ValOf]; (try go_ints); (first | simp only [e82] | simp only [e51] | simp only [e61] | simp only [e65] | skip); exact hK)
        first | refine' wpS_pick (g := .val _) true rfl rfl rfl rfl rfl rfl ?_ | refine' wpS_pick (g := .val _) false rfl rfl rfl rfl rfl rfl ?_
        refine' wpS_mv (g := .val _) 87 rfl rfl rfl rfl rfl ?_
        refine' wpS_call (g := (.val (.bool true))) 9 _ [] [] rfl rfl rfl rfl ⟨_, Try.func9, by kernel_rfl, by kernel_rfl⟩ rfl trivial trivial (fun w' hx => ?run43) ?_
        case run43 => (exact awake_c w')
        first | refine' wpS_pick (g := .val _) true rfl rfl rfl rfl rfl rfl ?_ | refine' wpS_pick (g := .val _) false rfl rfl rfl rfl rfl rfl ?_
        refine' wpS_mv (g := .val _) 90 rfl rfl rfl rfl rfl ?_
        refine wpS_end ?_
        intro w3 e3
        iterate 91 (refine finV rfl ?_)
        refine finE ?_
        try dsimp only
        refine wpList_nil ?_
        (go_wp2; go_ret; exact ⟨_, rfl, (Ext.alloc _ _).trans ((Ext.drew _).trans (hx'.trans ((Ext.drew _).trans (e2.trans ((Ext.drew _).trans e3))))), rfl⟩)
      · have e65 : decide (x < 0) = false := by simpa using hxn
        by_cases hyn : y < 0
        · have e70 : decide (0 ≤ y) = false := by simpa using hyn
          have e76 : (((zfold x : Nat) : Int) + 1 == ((zfold y : Nat) : Int)) = true := by
            have := zfold_next ho hxn hyn
            simp; omega
          have zx1 : zfold x < 18446744073709551615 := by unfold zfold; rw [if_neg hxn]; omega
          refine wp_region_S0 _ (by kernel_rfl) (by kernel_rfl) ?_
          refine' wpS_mv (g := .val _) 5 rfl rfl rfl rfl rfl ?_
          refine' wpS_call (g := (.val (.int .i64 x))) 8 _ [(29, _)] [] rfl rfl rfl rfl ⟨_, Try.func8, by kernel_rfl, by kernel_rfl⟩ rfl ⟨rfl, trivial⟩ trivial (fun w' hx => ?run44) ?_
          case run44 => (exact (by have := (back_c (zfold x) (zfold_lt x hx0 hx1)).gives w'; rwa [zback_fold] at this))
          refine' wpS_val (c := _) [(2, _)] rfl rfl rfl rfl rfl ⟨rfl, trivial⟩ (fun w' hx K hK => ?run45) ?_
          case run45 => (simp [go_sem, env, asc, ValOf]; exact hK)
          first | refine' wpS_load _ rfl rfl rfl rfl (by rw [Try.underlying3]; rfl) rfl f0 ?_ | refine' wpS_load _ rfl rfl rfl rfl (by rw [Try.underlying3]; rfl) rfl f1 ?_
          refine' wpS_val (c := _) [(30, _), (32, _)] rfl rfl rfl rfl rfl ⟨rfl, rfl, trivial⟩ (fun w' hx K hK => ?run46) ?_
          case run46 => (simp [go_sem, env, asc, ValOf]; (try go_ints); (first | simp only [e82] | simp only [e51] | simp only [e61] | simp only [e65] | simp only [e70] | simp only [e76] | skip); exact hK)
          refine' wpS_mv (g := .val _) 33 rfl rfl rfl rfl rfl ?_
          refine' wpS_mv (g := .val _) 6 rfl rfl rfl rfl rfl ?_
          refine' wpS_call (g := (.val (.int .i64 y))) 8 _ [(35, _)] [] rfl rfl rfl rfl ⟨_, Try.func8, by kernel_rfl, by kernel_rfl⟩ rfl ⟨rfl, trivial⟩ trivial (fun w' hx => ?run47) ?_
          case run47 => (exact (by have := (back_c (zfold y) (zfold_lt y hy0 hy1)).gives w'; rwa [zback_fold] at this))
          refine' wpS_val (c := _) [(2, _)] rfl rfl rfl rfl rfl ⟨rfl, trivial⟩ (fun w' hx K hK => ?run48) ?_
          case run48 => (simp [go_sem, env, asc, ValOf]; exact hK)
          first | refine' wpS_load _ rfl rfl rfl rfl (by rw [Try.underlying3]; rfl) rfl f0 ?_ | refine' wpS_load _ rfl rfl rfl rfl (by rw [Try.underlying3]; rfl) rfl f1 ?_
          refine' wpS_val (c := _) [(36, _), (38, _)] rfl rfl rfl rfl rfl ⟨rfl, rfl, trivial⟩ (fun w' hx K hK => ?run49) ?_
          case run49 => (simp [go_sem, env, asc, ValOf]; (try go_ints); (first | simp only [e82] | simp only [e51] | simp only [e61] | simp only [e65] | simp only [e70] | simp only [e76] | skip); exact hK)
          first | refine' wpS_pick (g := .val _) true rfl rfl rfl rfl rfl rfl ?_ | refine' wpS_pick (g := .val _) false rfl rfl rfl rfl rfl rfl ?_
          refine' wpS_mv (g := .val _) 40 rfl rfl rfl rfl rfl ?_
          refine' wpS_mv (g := .val _) 1 rfl rfl rfl rfl rfl ?_
          refine' wpS_call (g := (.val (.int .i64 (zback u)))) 8 _ [(42, _)] [] rfl rfl rfl rfl ⟨_, Try.func8, by kernel_rfl, by kernel_rfl⟩ rfl ⟨rfl, trivial⟩ trivial (fun w' hx => ?run50) ?_
          case run50 => (exact (back_c u hu1).gives w')
          refine' wpS_call (g := (.val (.int .u64 u))) 7 _ [(43, _)] [] rfl rfl rfl rfl ⟨_, Try.func7, by kernel_rfl, by kernel_rfl⟩ rfl ⟨rfl, trivial⟩ trivial (fun w' hx => ?run51) ?_
          case run51 => (exact (by have := (fold_c (zback u) (zback_lo u hu1) (zback_hi u hu1)).gives w'; rwa [zfold_back] at this))
          refine' wpS_mv (g := .val _) 1 rfl rfl rfl rfl rfl ?_
          refine' wpS_val (c := _) [(44, _), (45, _)] rfl rfl rfl rfl rfl ⟨rfl, rfl, trivial⟩ (fun w' hx K hK => ?run52) ?_
          case run52 => (simp [go_sem, env, asc, ValOf]; (try go_ints); (first | simp only [e82] | simp only [e51] | simp only [e61] | simp only [e65] | simp only [e70] | simp only [e76] | skip); exact hK)
          first | refine' wpS_pick (g := .val _) true rfl rfl rfl rfl rfl rfl ?_ | refine' wpS_pick (g := .val _) false rfl rfl rfl rfl rfl rfl ?_
          refine' wpS_mv (g := .val _) 47 rfl rfl rfl rfl rfl ?_
          refine' wpS_mv (g := .val _) 7 rfl rfl rfl rfl rfl ?_
          refine' wpS_mv (g := .val _) 8 rfl rfl rfl rfl rfl ?_
          refine' wpS_val (c := _) [(49, _), (50, _)] rfl rfl rfl rfl rfl ⟨rfl, rfl, trivial⟩ (fun w' hx K hK => ?run53) ?_
          case run53 => (simp [go_sem, env, asc, ValOf]; (try go_ints); (first | simp only [e82] | simp only [e51] | simp only [e61] | simp only [e65] | simp only [e70] | simp only [e76] | skip); exact hK)
          refine' wpS_mv (g := .val _) 51 rfl rfl rfl rfl rfl ?_
          refine wpS_skip rfl rfl rfl ?_
          refine wpS_skip rfl rfl rfl ?_
          refine wpS_skip rfl rfl rfl ?_
          first | refine' wpS_pick (g := .val _) true rfl rfl rfl rfl rfl rfl ?_ | refine' wpS_pick (g := .val _) false rfl rfl rfl rfl rfl rfl ?_
          first | refine' wpS_pick (g := .val _) true rfl rfl rfl rfl rfl rfl ?_ | refine' wpS_pick (g := .val _) false rfl rfl rfl rfl rfl rfl ?_
          refine' wpS_mv (g := .val _) 57 rfl rfl rfl rfl rfl ?_
          refine' wpS_mv (g := .val _) 7 rfl rfl rfl rfl rfl ?_
          refine' wpS_mv (g := .val _) 8 rfl rfl rfl rfl rfl ?_
          refine' wpS_val (c := _) [(59, _), (60, _)] rfl rfl rfl rfl rfl ⟨rfl, rfl, trivial⟩ (fun w' hx K hK => ?run54) ?_
          case run54 => (simp [go_sem, env, asc, ValOf]; (try go_ints); (first | simp only [e82] | simp only [e51] | simp only [e61] | simp only [e65] | simp only [e70] | simp only [e76] | skip); exact hK)
          refine' wpS_mv (g := .val _) 61 rfl rfl rfl rfl rfl ?_
          refine' wpS_val (c := _) [(2, _)] rfl rfl rfl rfl rfl ⟨rfl, trivial⟩ (fun w' hx K hK => ?run55) ?_
          case run55 => (simp [go_sem, env, asc, ValOf]; exact hK)
          first | refine' wpS_load _ rfl rfl rfl rfl (by rw [Try.underlying3]; rfl) rfl f0 ?_ | refine' wpS_load _ rfl rfl rfl rfl (by rw [Try.underlying3]; rfl) rfl f1 ?_
          refine' wpS_val (c := _) [(64, _)] rfl rfl rfl rfl rfl ⟨rfl, trivial⟩ (fun w' hx K hK => ?run56) ?_
          case run56 => (simp [go_sem, env, asc, ValOf]; (try go_ints); (first | simp only [e82] | simp only [e51] | simp only [e61] | simp only [e65] | simp only [e70] | simp only [e76] | skip); exact hK)
          first | refine' wpS_pick (g := .val _) true rfl rfl rfl rfl rfl rfl ?_ | refine' wpS_pick (g := .val _) false rfl rfl rfl rfl rfl rfl ?_
          refine' wpS_mv (g := .val _) 66 rfl rfl rfl rfl rfl ?_
          refine' wpS_val (c := _) [(2, _)] rfl rfl rfl rfl rfl ⟨rfl, trivial⟩ (fun w' hx K hK => ?run57) ?_
          case run57 => (simp [go_sem, env, asc, ValOf]; exact hK)
          first | refine' wpS_load _ rfl rfl rfl rfl (by rw [Try.underlying3]; rfl) rfl f0 ?_ | refine' wpS_load _ rfl rfl rfl rfl (by rw [Try.underlying3]; rfl) rfl f1 ?_
          refine' wpS_val (c := _) [(69, _)] rfl rfl rfl rfl rfl ⟨rfl, trivial⟩ (fun w' hx K hK => ?run58) ?_
          case run58 => (simp [go_sem, env, asc, ValOf]; (try go_ints); (first | simp only [e82] | simp only [e51] | simp only [e61] | simp only [e65] | simp only [e70] | simp only [e76] | skip); exact hK)
          first | refine' wpS_pick (g := .val _) true rfl rfl rfl rfl rfl rfl ?_ | refine' wpS_pick (g := .val _) false rfl rfl rfl rfl rfl rfl ?_
          refine' wpS_mv (g := .val _) 71 rfl rfl rfl rfl rfl ?_
          refine' wpS_mv (g := .val _) 5 rfl rfl rfl rfl rfl ?_
          refine' wpS_val (c := _) [(73, _)] rfl rfl rfl rfl rfl ⟨rfl, trivial⟩ (fun w' hx K hK => ?run59) ?_
          case run59 => (simp [go_sem, env, asc, ValOf]; (try go_ints); (first | simp only [e82] | simp only [e51] | simp only [e61] | simp only [e65] | simp only [e70] | simp only [e76] | skip); exact hK)
          refine' wpS_mv (g := .val _) 6 rfl rfl rfl rfl rfl ?_
          refine' wpS_val (c := _) [(74, _), (75, _)] rfl rfl rfl rfl rfl ⟨rfl, rfl, trivial⟩ (fun w' hx K hK => ?run60) ?_
          case run60 => (simp [go_sem, env, asc, ValOf]; (try go_ints); (first | simp only [e82] | simp only [e51] | simp only [e61] | simp only [e65] | simp only [e70] | simp only [e76] | skip); exact hK)
          first | refine' wpS_pick (g := .val _) true rfl rfl rfl rfl rfl rfl ?_ | refine' wpS_pick (g := .val _) false rfl rfl rfl rfl rfl rfl ?_
          first | refine' wpS_pick (g := .val _) true rfl rfl rfl rfl rfl rfl ?_ | refine' wpS_pick (g := .val _) false rfl rfl rfl rfl rfl rfl ?_
          refine' wpS_mv (g := .val _) 78 rfl rfl rfl rfl rfl ?_
          refine' wpS_mv (g := .val _) 5 rfl rfl rfl rfl rfl ?_
          refine' wpS_val (c := _) [(80, _)] rfl rfl rfl rfl rfl ⟨rfl, trivial⟩ (fun w' hx K hK => ?run61) ?_
          case run61 => (simp [go_sem, env, asc, ValOf]; (try go_ints); (first | simp only [e82] | simp only [e51] | simp only [e61] | simp only [e65] | simp only [e70] | simp only [e76] | skip); exact hK)
          refine' wpS_val (c := _) [(81, _)] rfl rfl rfl rfl rfl ⟨rfl, trivial⟩ (fun w' hx K hK => ?run62) ?_
          case run62 => (simp [go_sem, env, asc, ValOf]; (try go_ints); (first | simp only [e82] | simp only [e51] | simp only [e61] | simp only [e65] | simp only [e70] | simp only [e76] | skip); exact hK)
          refine' wpS_val (c := _) [(2, _)] rfl rfl rfl rfl rfl ⟨rfl, trivial⟩ (fun w' hx K hK => ?run63) ?_
          case run63 => (simp [go_sem, env, asc, ValOf]; exact hK)
          first | refine' wpS_load _ rfl rfl rfl rfl (by rw [Try.underlying3]; rfl) rfl f0 ?_ | refine' wpS_load _ rfl rfl rfl rfl (by rw [Try.underlying3]; rfl) rfl f1 ?_
          refine' wpS_val (c := _) [(84, _)] rfl rfl rfl rfl rfl ⟨rfl, trivial⟩ (fun w' hx K hK => ?run64) ?_
          case run64 => (simp [go_sem, env, asc, ValOf]; (try go_ints); (first | simp only [e82] | simp only [e51] | simp only [e61] | simp only [e65] | simp only [e70] | simp only [e76] | skip); exact hK)
          refine' wpS_val (c := _) [(82, _), (85, _)] rfl rfl rfl rfl rfl ⟨rfl, rfl, trivial⟩ (fun w' hx K hK => ?run65) ?_
          case run65 => (simp [go_sem, env, asc, ValOf]; (try go_ints); (first | simp only [e82] | simp only [e51] | simp only [e61] | simp only [e65] | simp only [e70] | simp only [e76] | skip); exact hK)
          first | refine' wpS_pick (g := .val _) true rfl rfl rfl rfl rfl rfl ?_ | refine' wpS_pick (g := .val _) false rfl rfl rfl rfl rfl rfl ?_
          refine' wpS_mv (g := .val _) 87 rfl rfl rfl rfl rfl ?_
          refine' wpS_call (g := (.val (.bool true))) 9 _ [] [] rfl rfl rfl rfl ⟨_, Try.func9, by kernel_rfl, by kernel_rfl⟩ rfl trivial trivial (fun w' hx => ?run66) ?_
          case run66 => (exact awake_c w')
          first | refine' wpS_pick (g := .val _) true rfl rfl rfl rfl rfl rfl ?_ | refine' wpS_pick (g := .val _) false rfl rfl rfl rfl rfl rfl ?_
          refine' wpS_mv (g := .val _) 90 rfl rfl rfl rfl rfl ?_
          refine wpS_end ?_
          intro w3 e3
          iterate 91 (refine finV rfl ?_)
          refine finE ?_
          try dsimp only
          refine wpList_nil ?_
          (go_wp2; go_ret; exact ⟨_, rfl, (Ext.alloc _ _).trans ((Ext.drew _).trans (hx'.trans ((Ext.drew _).trans (e2.trans ((Ext.drew _).trans e3))))), rfl⟩)
        · have e70 : decide (0 ≤ y) = true := by simp; omega
          refine wp_region_S0 _ (by kernel_rfl) (by kernel_rfl) ?_
          refine' wpS_mv (g := .val _) 5 rfl rfl rfl rfl rfl ?_
          refine' wpS_call (g := (.val (.int .i64 x))) 8 _ [(29, _)] [] rfl rfl rfl rfl ⟨_, Try.func8, by kernel_rfl, by kernel_rfl⟩ rfl ⟨rfl, trivial⟩ trivial (fun w' hx => ?run67) ?_
          case run67 => (exact (by have := (back_c (zfold x) (zfold_lt x hx0 hx1)).gives w'; rwa [zback_fold] at this))
          refine' wpS_val (c := _) [(2, _)] rfl rfl rfl rfl rfl ⟨rfl, trivial⟩ (fun w' hx K hK => ?run68) ?_
          case run68 => (simp [go_sem, env, asc, ValOf]; exact hK)
          first | refine' wpS_load _ rfl rfl rfl rfl (by rw [Try.underlying3]; rfl) rfl f0 ?_ | refine' wpS_load _ rfl rfl rfl rfl (by rw [Try.underlying3]; rfl) rfl f1 ?_
          refine' wpS_val (c := _) [(30, _), (32, _)] rfl rfl rfl rfl rfl ⟨rfl, rfl, trivial⟩ (fun w' hx K hK => ?run69) ?_
          case run69 => (simp [go_sem, env, asc, ValOf]; (try go_ints); (first | simp only [e82] | simp only [e51] | simp only [e61] | simp only [e65] | simp only [e70] | skip); exact hK)
          refine' wpS_mv (g := .val _) 33 rfl rfl rfl rfl rfl ?_
          refine' wpS_mv (g := .val _) 6 rfl rfl rfl rfl rfl ?_
          refine' wpS_call (g := (.val (.int .i64 y))) 8 _ [(35, _)] [] rfl rfl rfl rfl ⟨_, Try.func8, by kernel_rfl, by kernel_rfl⟩ rfl ⟨rfl, trivial⟩ trivial (fun w' hx => ?run70) ?_
          case run70 => (exact (by have := (back_c (zfold y) (zfold_lt y hy0 hy1)).gives w'; rwa [zback_fold] at this))
          refine' wpS_val (c := _) [(2, _)] rfl rfl rfl rfl rfl ⟨rfl, trivial⟩ (fun w' hx K hK => ?run71) ?_
          case run71 => (simp [go_sem, env, asc, ValOf]; exact hK)
          first | refine' wpS_load _ rfl rfl rfl rfl (by rw [Try.underlying3]; rfl) rfl f0 ?_ | refine' wpS_load _ rfl rfl rfl rfl (by rw [Try.underlying3]; rfl) rfl f1 ?_
          refine' wpS_val (c := _) [(36, _), (38, _)] rfl rfl rfl rfl rfl ⟨rfl, rfl, trivial⟩ (fun w' hx K hK => ?run72) ?_
          case run72 => (simp [go_sem, env, asc, ValOf]; (try go_ints); (first | simp only [e82] | simp only [e51] | simp only [e61] | simp only [e65] | simp only [e70] | skip); exact hK)
          first | refine' wpS_pick (g := .val _) true rfl rfl rfl rfl rfl rfl ?_ | refine' wpS_pick (g := .val _) false rfl rfl rfl rfl rfl rfl ?_
          refine' wpS_mv (g := .val _) 40 rfl rfl rfl rfl rfl ?_
          refine' wpS_mv (g := .val _) 1 rfl rfl rfl rfl rfl ?_
          refine' wpS_call (g := (.val (.int .i64 (zback u)))) 8 _ [(42, _)] [] rfl rfl rfl rfl ⟨_, Try.func8, by kernel_rfl, by kernel_rfl⟩ rfl ⟨rfl, trivial⟩ trivial (fun w' hx => ?run73) ?_
          case run73 => (exact (back_c u hu1).gives w')
          refine' wpS_call (g := (.val (.int .u64 u))) 7 _ [(43, _)] [] rfl rfl rfl rfl ⟨_, Try.func7, by kernel_rfl, by kernel_rfl⟩ rfl ⟨rfl, trivial⟩ trivial (fun w' hx => ?run74) ?_
          case run74 => (exact (by have := (fold_c (zback u) (zback_lo u hu1) (zback_hi u hu1)).gives w'; rwa [zfold_back] at this))
          refine' wpS_mv (g := .val _) 1 rfl rfl rfl rfl rfl ?_
          refine' wpS_val (c := _) [(44, _), (45, _)] rfl rfl rfl rfl rfl ⟨rfl, rfl, trivial⟩ (fun w' hx K hK => ?run75) ?_
          case run75 => (simp [go_sem, env, asc, ValOf]; (try go_ints); (first | simp only [e82] | simp only [e51] | simp only [e61] | simp only [e65] | simp only [e70] | skip); exact hK)
          first | refine' wpS_pick (g := .val _) true rfl rfl rfl rfl rfl rfl ?_ | refine' wpS_pick (g := .val _) false rfl rfl rfl rfl rfl rfl ?_
          refine' wpS_mv (g := .val _) 47 rfl rfl rfl rfl rfl ?_
          refine' wpS_mv (g := .val _) 7 rfl rfl rfl rfl rfl ?_
          refine' wpS_mv (g := .val _) 8 rfl rfl rfl rfl rfl ?_
          refine' wpS_val (c := _) [(49, _), (50, _)] rfl rfl rfl rfl rfl ⟨rfl, rfl, trivial⟩ (fun w' hx K hK => ?run76) ?_
          case run76 => (simp [go_sem, env, asc, ValOf]; (try go_ints); (first | simp only [e82] | simp only [e51] | simp only [e61] | simp only [e65] | simp only [e70] | skip); exact hK)
          refine' wpS_mv (g := .val _) 51 rfl rfl rfl rfl rfl ?_
          refine wpS_skip rfl rfl rfl ?_
          refine wpS_skip rfl rfl rfl ?_
          refine wpS_skip rfl rfl rfl ?_
          first | refine' wpS_pick (g := .val _) true rfl rfl rfl rfl rfl rfl ?_ | refine' wpS_pick (g := .val _) false rfl rfl rfl rfl rfl rfl ?_
          first | refine' wpS_pick (g := .val _) true rfl rfl rfl rfl rfl rfl ?_ | refine' wpS_pick (g := .val _) false rfl rfl rfl rfl rfl rfl ?_
          refine' wpS_mv (g := .val _) 57 rfl rfl rfl rfl rfl ?_
          refine' wpS_mv (g := .val _) 7 rfl rfl rfl rfl rfl ?_
          refine' wpS_mv (g := .val _) 8 rfl rfl rfl rfl rfl ?_
          refine' wpS_val (c := _) [(59, _), (60, _)] rfl rfl rfl rfl rfl ⟨rfl, rfl, trivial⟩ (fun w' hx K hK => ?run77) ?_
          case run77 => (simp [go_sem, env, asc, ValOf]; (try go_ints); (first | simp only [e82] | simp only [e51] | simp only [e61] | simp only [e65] | simp only [e70] | skip); exact hK)
          refine' wpS_mv (g := .val _) 61 rfl rfl rfl rfl rfl ?_
          refine' wpS_val (c := _) [(2, _)] rfl rfl rfl rfl rfl ⟨rfl, trivial⟩ (fun w' hx K hK => ?run78) ?_
          case run78 => (simp [go_sem, env, asc, ValOf]; exact hK)
          first | refine' wpS_load _ rfl rfl rfl rfl (by rw [Try.underlying3]; rfl) rfl f0 ?_ | refine' wpS_load _ rfl rfl rfl rfl (by rw [Try.underlying3]; rfl) rfl f1 ?_
          refine' wpS_val (c := _) [(64, _)] rfl rfl rfl rfl rfl ⟨rfl, trivial⟩ (fun w' hx K hK => ?run79) ?_
          case run79 => (simp [go_sem, env, asc, ValOf]; (try go_ints); (first | simp only [e82] | simp only [e51] | simp only [e61] | simp only [e65] | simp only [e70] | skip); exact hK)
          first | refine' wpS_pick (g := .val _) true rfl rfl rfl rfl rfl rfl ?_ | refine' wpS_pick (g := .val _) false rfl rfl rfl rfl rfl rfl ?_
          refine' wpS_mv (g := .val _) 66 rfl rfl rfl rfl rfl ?_
          refine' wpS_val (c := _) [(2, _)] rfl rfl rfl rfl rfl ⟨rfl, trivial⟩ (fun w' hx K hK => ?run80) ?_
          case run80 => (simp [go_sem, env, asc, ValOf]; exact hK)
          first | refine' wpS_load _ rfl rfl rfl rfl (by rw [Try.underlying3]; rfl) rfl f0 ?_ | refine' wpS_load _ rfl rfl rfl rfl (by rw [Try.underlying3]; rfl) rfl f1 ?_
          refine' wpS_val (c := _) [(69, _)] rfl rfl rfl rfl rfl ⟨rfl, trivial⟩ (fun w' hx K hK => ?run81) ?_
          case run81 => (simp [go_sem, env, asc, ValOf]; (try go_ints); (first | simp only [e82] | simp only [e51] | simp only [e61] | simp only [e65] | simp only [e70] | skip); exact hK)
          first | refine' wpS_pick (g := .val _) true rfl rfl rfl rfl rfl rfl ?_ | refine' wpS_pick (g := .val _) false rfl rfl rfl rfl rfl rfl ?_
          refine' wpS_mv (g := .val _) 71 rfl rfl rfl rfl rfl ?_
          refine wpS_skip rfl rfl rfl ?_
          refine wpS_skip rfl rfl rfl ?_
          refine wpS_skip rfl rfl rfl ?_
          refine wpS_skip rfl rfl rfl ?_
          first | refine' wpS_pick (g := .val _) true rfl rfl rfl rfl rfl rfl ?_ | refine' wpS_pick (g := .val _) false rfl rfl rfl rfl rfl rfl ?_
          first | refine' wpS_pick (g := .val _) true rfl rfl rfl rfl rfl rfl ?_ | refine' wpS_pick (g := .val _) false rfl rfl rfl rfl rfl rfl ?_
          refine' wpS_mv (g := .val _) 78 rfl rfl rfl rfl rfl ?_
          refine' wpS_mv (g := .val _) 5 rfl rfl rfl rfl rfl ?_
          refine' wpS_val (c := _) [(80, _)] rfl rfl rfl rfl rfl ⟨rfl, trivial⟩ (fun w' hx K hK => ?run82) ?_
          case run82 => (simp [go_sem, env, asc, ValOf]; (try go_ints); (first | simp only [e82] | simp only [e51] | simp only [e61] | simp only [e65] | simp only [e70] | skip); exact hK)
          refine' wpS_val (c := _) [(81, _)] rfl rfl rfl rfl rfl ⟨rfl, trivial⟩ (fun w' hx K hK => ?run83) ?_
          case run83 => (simp [go_sem, env, asc, ValOf]; (try go_ints); (first | simp only [e82] | simp only [e51] | simp only [e61] | simp only [e65] | simp only [e70] | skip); exact hK)
          refine' wpS_val (c := _) [(2, _)] rfl rfl rfl rfl rfl ⟨rfl, trivial⟩ (fun w' hx K hK => ?run84) ?_
          case run84 => (simp [go_sem, env, asc, ValOf]; exact hK)
          first | refine' wpS_load _ rfl rfl rfl rfl (by rw [Try.underlying3]; rfl) rfl f0 ?_ | refine' wpS_load _ rfl rfl rfl rfl (by rw [Try.underlying3]; rfl) rfl f1 ?_
          refine' wpS_val (c := _) [(84, _)] rfl rfl rfl rfl rfl ⟨rfl, trivial⟩ (fun w' hx K hK => ?run85) ?_
          case run85 => (simp [go_sem, env, asc, ValOf]; (try go_ints); (first | simp only [e82] | simp only [e51] | simp only [e61] | simp only [e65] | simp only [e70] | skip); exact hK)
          refine' wpS_val (c := _) [(82, _), (85, _)] rfl rfl rfl rfl rfl ⟨rfl, rfl, trivial⟩ (fun w' hx K hK => ?run86) ?_
          case run86 => (simp [go_sem, env, asc, ValOf]; (try go_ints); (first | simp only [e82] | simp only [e51] | simp only [e61] | simp only [e65] | simp only [e70] | skip); exact hK)
          first | refine' wpS_pick (g := .val _) true rfl rfl rfl rfl rfl rfl ?_ | refine' wpS_pick (g := .val _) false rfl rfl rfl rfl rfl rfl ?_
          refine' wpS_mv (g := .val _) 87 rfl rfl rfl rfl rfl ?_
          refine' wpS_call (g := (.val (.bool true))) 9 _ [] [] rfl rfl rfl rfl ⟨_, Try.func9, by kernel_rfl, by kernel_rfl⟩ rfl trivial trivial (fun w' hx => ?run87) ?_
          case run87 => (exact awake_c w')
          first | refine' wpS_pick (g := .val _) true rfl rfl rfl rfl rfl rfl ?_ | refine' wpS_pick (g := .val _) false rfl rfl rfl rfl rfl rfl ?_
          refine' wpS_mv (g := .val _) 90 rfl rfl rfl rfl rfl ?_
          refine wpS_end ?_
          intro w3 e3
          iterate 91 (refine finV rfl ?_)
          refine finE ?_
          try dsimp only
          refine wpList_nil ?_
          (go_wp2; go_ret; exact ⟨_, rfl, (Ext.alloc _ _).trans ((Ext.drew _).trans (hx'.trans ((Ext.drew _).trans (e2.trans ((Ext.drew _).trans e3))))), rfl⟩)
    · have e51 : decide (znear y ≤ znear x) = true := by simp; omega
      have e61 : (znear x != znear y) = true := by simp; omega
      refine wp_region_S0 _ (by kernel_rfl) (by kernel_rfl) ?_
      refine' wpS_mv (g := .val _) 5 rfl rfl rfl rfl rfl ?_
      refine' wpS_call (g := (.val (.int .i64 x))) 8 _ [(29, _)] [] rfl rfl rfl rfl ⟨_, Try.func8, by kernel_rfl, by kernel_rfl⟩ rfl ⟨rfl, trivial⟩ trivial (fun w' hx => ?run88) ?_
      case run88 => (exact (by have := (back_c (zfold x) (zfold_lt x hx0 hx1)).gives w'; rwa [zback_fold] at this))
      refine' wpS_val (c := _) [(2, _)] rfl rfl rfl rfl rfl ⟨rfl, trivial⟩ (fun w' hx K hK => ?run89) ?_
      case run89 => (simp [go_sem, env, asc, ValOf]; exact hK)
      first | refine' wpS_load _ rfl rfl rfl rfl (by rw [Try.underlying3]; rfl) rfl f0 ?_ | refine' wpS_load _ rfl rfl rfl rfl (by rw [Try.underlying3]; rfl) rfl f1 ?_
      refine' wpS_val (c := _) [(30, _), (32, _)] rfl rfl rfl rfl rfl ⟨rfl, rfl, trivial⟩ (fun w' hx K hK => ?run90) ?_
      case run90 => (simp [go_sem, env, asc, ValOf]; (try go_ints); (first | simp only [e82] | simp only [e51] | simp only [e61] | skip); exact hK)
      refine' wpS_mv (g := .val _) 33 rfl rfl rfl rfl rfl ?_
      refine' wpS_mv (g := .val _) 6 rfl rfl rfl rfl rfl ?_
      refine' wpS_call (g := (.val (.int .i64 y))) 8 _ [(35, _)] [] rfl rfl rfl rfl ⟨_, Try.func8, by kernel_rfl, by kernel_rfl⟩ rfl ⟨rfl, trivial⟩ trivial (fun w' hx => ?run91) ?_
      case run91 => (exact (by have := (back_c (zfold y) (zfold_lt y hy0 hy1)).gives w'; rwa [zback_fold] at this))
      refine' wpS_val (c := _) [(2, _)] rfl rfl rfl rfl rfl ⟨rfl, trivial⟩ (fun w' hx K hK => ?run92) ?_
      case run92 => (simp [go_sem, env, asc, ValOf]; exact hK)
      first | refine' wpS_load _ rfl rfl rfl rfl (by rw [Try.underlying3]; rfl) rfl f0 ?_ | refine' wpS_load _ rfl rfl rfl rfl (by rw [Try.underlying3]; rfl) rfl f1 ?_
      refine' wpS_val (c := _) [(36, _), (38, _)] rfl rfl rfl rfl rfl ⟨rfl, rfl, trivial⟩ (fun w' hx K hK => ?run93) ?_
      case run93 => (simp [go_sem, env, asc, ValOf]; (try go_ints); (first | simp only [e82] | simp only [e51] | simp only [e61] | skip); exact hK)
      first | refine' wpS_pick (g := .val _) true rfl rfl rfl rfl rfl rfl ?_ | refine' wpS_pick (g := .val _) false rfl rfl rfl rfl rfl rfl ?_
      refine' wpS_mv (g := .val _) 40 rfl rfl rfl rfl rfl ?_
      refine' wpS_mv (g := .val _) 1 rfl rfl rfl rfl rfl ?_
      refine' wpS_call (g := (.val (.int .i64 (zback u)))) 8 _ [(42, _)] [] rfl rfl rfl rfl ⟨_, Try.func8, by kernel_rfl, by kernel_rfl⟩ rfl ⟨rfl, trivial⟩ trivial (fun w' hx => ?run94) ?_
      case run94 => (exact (back_c u hu1).gives w')
      refine' wpS_call (g := (.val (.int .u64 u))) 7 _ [(43, _)] [] rfl rfl rfl rfl ⟨_, Try.func7, by kernel_rfl, by kernel_rfl⟩ rfl ⟨rfl, trivial⟩ trivial (fun w' hx => ?run95) ?_
      case run95 => (exact (by have := (fold_c (zback u) (zback_lo u hu1) (zback_hi u hu1)).gives w'; rwa [zfold_back] at this))
      refine' wpS_mv (g := .val _) 1 rfl rfl rfl rfl rfl ?_
      refine' wpS_val (c := _) [(44, _), (45, _)] rfl rfl rfl rfl rfl ⟨rfl, rfl, trivial⟩ (fun w' hx K hK => ?run96) ?_
      case run96 => (simp [go_sem, env, asc, ValOf]; (try go_ints); (first | simp only [e82] | simp only [e51] | simp only [e61] | skip); exact hK)
      first | refine' wpS_pick (g := .val _) true rfl rfl rfl rfl rfl rfl ?_ | refine' wpS_pick (g := .val _) false rfl rfl rfl rfl rfl rfl ?_
      refine' wpS_mv (g := .val _) 47 rfl rfl rfl rfl rfl ?_
      refine' wpS_mv (g := .val _) 7 rfl rfl rfl rfl rfl ?_
      refine' wpS_mv (g := .val _) 8 rfl rfl rfl rfl rfl ?_
      refine' wpS_val (c := _) [(49, _), (50, _)] rfl rfl rfl rfl rfl ⟨rfl, rfl, trivial⟩ (fun w' hx K hK => ?run97) ?_
      case run97 => (simp [go_sem, env, asc, ValOf]; (try go_ints); (first | simp only [e82] | simp only [e51] | simp only [e61] | skip); exact hK)
      refine' wpS_mv (g := .val _) 51 rfl rfl rfl rfl rfl ?_
      refine wpS_skip rfl rfl rfl ?_
      refine wpS_skip rfl rfl rfl ?_
      refine wpS_skip rfl rfl rfl ?_
      first | refine' wpS_pick (g := .val _) true rfl rfl rfl rfl rfl rfl ?_ | refine' wpS_pick (g := .val _) false rfl rfl rfl rfl rfl rfl ?_
      first | refine' wpS_pick (g := .val _) true rfl rfl rfl rfl rfl rfl ?_ | refine' wpS_pick (g := .val _) false rfl rfl rfl rfl rfl rfl ?_
      refine' wpS_mv (g := .val _) 57 rfl rfl rfl rfl rfl ?_
      refine' wpS_mv (g := .val _) 7 rfl rfl rfl rfl rfl ?_
      refine' wpS_mv (g := .val _) 8 rfl rfl rfl rfl rfl ?_
      refine' wpS_val (c := _) [(59, _), (60, _)] rfl rfl rfl rfl rfl ⟨rfl, rfl, trivial⟩ (fun w' hx K hK => ?run98) ?_
      case run98 => (simp [go_sem, env, asc, ValOf]; (try go_ints); (first | simp only [e82] | simp only [e51] | simp only [e61] | skip); exact hK)
      refine' wpS_mv (g := .val _) 61 rfl rfl rfl rfl rfl ?_
      refine wpS_skip rfl rfl rfl ?_
      refine wpS_skip rfl rfl rfl ?_
      refine wpS_skip rfl rfl rfl ?_
      first | refine' wpS_pick (g := .val _) true rfl rfl rfl rfl rfl rfl ?_ | refine' wpS_pick (g := .val _) false rfl rfl rfl rfl rfl rfl ?_
      refine' wpS_mv (g := .val _) 66 rfl rfl rfl rfl rfl ?_
      refine wpS_skip rfl rfl rfl ?_
      refine wpS_skip rfl rfl rfl ?_
      refine wpS_skip rfl rfl rfl ?_
      first | refine' wpS_pick (g := .val _) true rfl rfl rfl rfl rfl rfl ?_ | refine' wpS_pick (g := .val _) false rfl rfl rfl rfl rfl rfl ?_
      refine' wpS_mv (g := .val _) 71 rfl rfl rfl rfl rfl ?_
      refine wpS_skip rfl rfl rfl ?_
      refine wpS_skip rfl rfl rfl ?_
      refine wpS_skip rfl rfl rfl ?_
      refine wpS_skip rfl rfl rfl ?_
      first | refine' wpS_pick (g := .val _) true rfl rfl rfl rfl rfl rfl ?_ | refine' wpS_pick (g := .val _) false rfl rfl rfl rfl rfl rfl ?_
      first | refine' wpS_pick (g := .val _) true rfl rfl rfl rfl rfl rfl ?_ | refine' wpS_pick (g := .val _) false rfl rfl rfl rfl rfl rfl ?_
      refine' wpS_mv (g := .val _) 78 rfl rfl rfl rfl rfl ?_
      refine' wpS_mv (g := .val _) 5 rfl rfl rfl rfl rfl ?_
      refine' wpS_val (c := _) [(80, _)] rfl rfl rfl rfl rfl ⟨rfl, trivial⟩ (fun w' hx K hK => ?run99) ?_
      case run99 => (simp [go_sem, env, asc, ValOf]; (try go_ints); (first | simp only [e82] | simp only [e51] | simp only [e61] | skip); exact hK)
      refine' wpS_val (c := _) [(81, _)] rfl rfl rfl rfl rfl ⟨rfl, trivial⟩ (fun w' hx K hK => ?run100) ?_
      case run100 => (simp [go_sem, env, asc, ValOf]; (try go_ints); (first | simp only [e82] | simp only [e51] | simp only [e61] | skip); exact hK)
      refine' wpS_val (c := _) [(2, _)] rfl rfl rfl rfl rfl ⟨rfl, trivial⟩ (fun w' hx K hK => ?run101) ?_
      case run101 => (simp [go_sem, env, asc, ValOf]; exact hK)
      first | refine' wpS_load _ rfl rfl rfl rfl (by rw [Try.underlying3]; rfl) rfl f0 ?_ | refine' wpS_load _ rfl rfl rfl rfl (by rw [Try.underlying3]; rfl) rfl f1 ?_
      refine' wpS_val (c := _) [(84, _)] rfl rfl rfl rfl rfl ⟨rfl, trivial⟩ (fun w' hx K hK => ?run102) ?_
      case run102 => (simp [go_sem, env, asc, ValOf]; (try go_ints); (first | simp only [e82] | simp only [e51] | simp only [e61] | skip); exact hK)
      refine' wpS_val (c := _) [(82, _), (85, _)] rfl rfl rfl rfl rfl ⟨rfl, rfl, trivial⟩ (fun w' hx K hK => ?run103) ?_
      case run103 => (simp [go_sem, env, asc, ValOf]; (try go_ints); (first | simp only [e82] | simp only [e51] | simp only [e61] | skip); exact hK)
      first | refine' wpS_pick (g := .val _) true rfl rfl rfl rfl rfl rfl ?_ | refine' wpS_pick (g := .val _) false rfl rfl rfl rfl rfl rfl ?_
      refine' wpS_mv (g := .val _) 87 rfl rfl rfl rfl rfl ?_
      refine' wpS_call (g := (.val (.bool true))) 9 _ [] [] rfl rfl rfl rfl ⟨_, Try.func9, by kernel_rfl, by kernel_rfl⟩ rfl trivial trivial (fun w' hx => ?run104) ?_
      case run104 => (exact awake_c w')
      first | refine' wpS_pick (g := .val _) true rfl rfl rfl rfl rfl rfl ?_ | refine' wpS_pick (g := .val _) false rfl rfl rfl rfl rfl rfl ?_
      refine' wpS_mv (g := .val _) 90 rfl rfl rfl rfl rfl ?_
      refine wpS_end ?_
      intro w3 e3
      iterate 91 (refine finV rfl ?_)
      refine finE ?_
      try dsimp only
      refine wpList_nil ?_
      (go_wp2; go_ret; exact ⟨_, rfl, (Ext.alloc _ _).trans ((Ext.drew _).trans (hx'.trans ((Ext.drew _).trans (e2.trans ((Ext.drew _).trans e3))))), rfl⟩)
theorem own_ZigFolds : ownKnob Try.prog.godebug = none := by kernel_rfl
theorem laidOut_ZigFolds : laidOutB Try.prog = true := by kernel_rfl
set_option maxRecDepth 100000 in
theorem lifted_ZigFolds (os : Os) (started : os.Started) (H : Type) (enc : TypeId × Value → H) :
    ReturnsInHanded {} Try.checked os 3 .any (Rows.zigFoldsSpec.pre6 enc Try.prog Try.f3 Rows.zigFoldsRow.domain false) (Rows.zigFoldsSpec.post enc Try.prog Try.f3 false true false false) := by
  refine returnsInHanded_of_change (C := Try.checked) own_ZigFolds started (by kernel_rfl) Try.func3
    (ChangeSpec.witness6 (enc := enc) (C := Try.checked) false ⟨#[], #[.agg #[.int .i64 0, .int .i64 0], .int .u64 0], []⟩ 8 (by kernel_rfl) (by kernel_rfl) (by kernel_rfl) (by kernel_rfl)) ?_
  intro W base args ds gs before hval0 hW hcnd _
  have hval : ∀ (j : Nat) t v, Try.f3.params[j]? = some t → args[j]? = some v → Value.okWide Try.prog W .any base t v := hval0
  have hW' := hW
  obtain ⟨p, q, hA0, hV, rfl, hfz, hnd⟩ := hW
  have hA : DataW.TrodAll enc Try.prog W 0 (fun _ => true) true Try.f3.params.toList args.toList ds p := hA0
  rw [Try.params3] at hA hval
  have hAll := hA
  obtain ⟨v0, vs0, d0, ds0, p0, q0, hargs, rfl, rfl, h0, r0⟩ := trodAll_cons hA
  obtain ⟨v1, vs1, d1, ds1, p1, q1, rfl, rfl, rfl, h1, r1⟩ := trodAll_cons r0
  obtain ⟨rfl, rfl, rfl⟩ := trodAll_nil r1
  obtain rfl : args = #[v0, v1] := by cases args; simp_all
  obtain ⟨rfl, rfl⟩ := trodVars_none hV
  obtain ⟨l0, rfl, w0, x0⟩ := op_array_ints Try.underlying22 Try.underlying3 (by kernel_rfl) (by kernel_rfl) (hval 0 22 v0 rfl rfl) h0
  obtain ⟨a1, rfl, rfl, rfl, w1⟩ := open_int Try.underlying23 (hval 1 23 v1 rfl rfl) h1
  clear hA0 hval0
  refine Calls.mono (law_ZigFolds W l0 w0 x0 a1 (bounds_u64 w1)) fun e W' ⟨v, he, bel, hv⟩ => ?_
  subst he
  subst hv
  exact ⟨_, rfl, _, _, _, [], _, [], hW', trodAll_mk1 (shut_bool Try.underlying4 _), trodAll_below laidOut_ZigFolds bel (by kernel_rfl) hAll, rfl, bel.frame _, fun h => by cases h⟩
/-- The statement. -/
theorem holds_ZigFolds : Rows.ZigFoldsSaid :=
  OpenClaim.holds_of_wide 3 Try.f3 rfl rfl rfl rfl rfl rfl rfl ⟨rfl, rfl, rfl, rfl, rfl⟩ rfl rfl rfl rfl rfl (by kernel_rfl) Try.func3 (by kernel_rfl)
    (of_decide_eq_true (by kernel_rfl)) (by unfold Func.isWrapper; first | (rw [if_pos (by decide +kernel)]; kernel_rfl) | (rw [if_neg (by decide +kernel)]; exact ⟨rfl, rfl⟩))
    (fun os started H enc _ => lifted_ZigFolds os started H enc)
end Go.Proofs.Ytnhabcmemadgcaa
