/- ZigBack: for every numbers, every whole number and every bytes the law returns true. No condition. -/
import Derived.Test.YtnhabcmemadgcaaZigA
import Derived.Test.YtnhabcmemadgcaaZigBackP
import Derived.Test.YtnhabcmemadgcaaFrame
import Derived.Test.YtnhabcmemadgcaaRows
import Derived.Deep.DeepCutAuto
namespace Go.Proofs.Ytnhabcmemadgcaa
open Go.ChangeShapes Go.WideShapes Go.ChangeAt Go.RowKit
open Go.ChangeMaps (open_string shut_string)
set_option linter.unusedVariables false

theorem ztkV_ok (l : List UInt8) (p u n : Nat) : ztkV (zgo l p (u, n, 0)) = .tuple #[.int .u64 u, .int .i64 ((p + n : Nat) : Int), .int .i64 0] := rfl
theorem ztkV_no (l : List UInt8) (p u n e : Nat) (h : e ≠ 0) : ztkV (zgo l p (u, n, e)) = .tuple #[.int .u64 u, .int .i64 0, .int .i64 e] := by
  simp [ztkV, zgo, h]
def zall (l : List Nat) : List UInt8 := l.flatMap zb
theorem zall_append (l r : List Nat) : zall (l ++ r) = zall l ++ zall r := by simp [zall]
theorem zall_take (l : List Nat) (k : Nat) (u : Nat) (h : l[k]? = some u) : zall (l.take (k + 1)) = zall (l.take k) ++ zb u := by
  rw [List.take_succ_eq_append_getElem (List.getElem?_eq_some_iff.1 h).1, zall_append, (List.getElem?_eq_some_iff.1 h).2]
  simp [zall]
theorem zall_len (l : List Nat) (h : ∀ u ∈ l, u < 18446744073709551616) : (zall l).length ≤ 10 * l.length := by
  induction l with
  | nil => simp [zall]
  | cons u l ih =>
    have h1 := ih fun u hu => h u (by simp [hu])
    have h2 := zn_le10 u (h u (by simp))
    simp only [zall, List.flatMap_cons, List.length_append, List.length_cons, zb_length] at h1 ⊢
    omega

set_option maxRecDepth 100000 in
set_option maxHeartbeats 8000000 in
theorem law_ZigBack (w : World) (v : Value) (li : List Int) (hb : IsSl 1 (li.map (.int .u64)) v w) (hw : ∀ n ∈ li, (Lit.int .u64 n).wf = true) (n : Int) (hn : -9223372036854775808 ≤ n ∧ n ≤ 9223372036854775807)
    (s : ByteArray) (hs : s.size ≤ maxLen) : Gives Try.prog 6 #[v, .int .i64 n, .string s] w (Is (.bool true)) := by
  obtain ⟨hn0, hn1⟩ := hn
  unfold maxLen at hs
  obtain ⟨l, hl, hll⟩ : ∃ l : List Nat, li = l.map (fun (u : Nat) => (u : Int)) ∧ ∀ u ∈ l, u < 18446744073709551616 := by
    refine ⟨li.map Int.toNat, ?_, fun u hu => ?_⟩
    · rw [List.map_map]
      have : ∀ x ∈ li, x = ((fun (u : Nat) => (u : Int)) ∘ Int.toNat) x := fun x hx => by
        have := bounds_u64 (hw x hx); simp only [Function.comp]; omega
      rw [← List.map_congr_left this]; simp
    · obtain ⟨x, hx, rfl⟩ := List.mem_map.1 hu
      have := bounds_u64 (hw x hx); omega
  subst hl
  clear hw
  rw [List.map_map] at hb
  have hcells : ∀ (k u : Nat), l[k]? = some u → (l.map (Value.int IntKind.u64 ∘ fun (u : Nat) => (u : Int)))[k]? = some (Value.int .u64 u) := fun k u h => by rw [List.getElem?_map, h]; rfl
  obtain ⟨a, m, cap, rfl, hlm, hmc, hcm, han, hcell⟩ := id hb
  rw [List.length_map, Nat.mul_one] at hlm
  by_cases hbig : 20 < m
  · have b0 : decide ((20 : Int) < (m : Int)) = true := by simp; omega
    go_enter Try.func6, Try.ntmps6
    go_wp2_with (go_at_call 9; refine Calls.mono (awake_c _) ?_; rintro _ w1 ⟨_, rfl, hx1, rfl⟩)
    go_ret
    exact ⟨_, rfl, hx1, rfl⟩
  by_cases hsb : 100 < s.size
  · have b0 : decide ((20 : Int) < (m : Int)) = false := by simp; omega
    have b1 : decide ((100 : Int) < (s.size : Int)) = true := by simp; omega
    go_enter Try.func6, Try.ntmps6
    go_wp2_with (go_at_call 9; refine Calls.mono (awake_c _) ?_; rintro _ w1 ⟨_, rfl, hx1, rfl⟩)
    go_ret
    exact ⟨_, rfl, hx1, rfl⟩
  have hzf := zfold_lt n hn0 hn1
  have hm20 : m ≤ 20 := by omega
  have hs100 : s.size ≤ 100 := by omega
  have Hlm := Lib.hid hlm
  have Hb := Lib.hid hb
  have Hcell := Lib.hid hcell
  clear hlm hb hcell han hbig hsb
  have q1 : decide ((20 : Int) < (m : Int)) = false := by simp; omega
  have q2 : decide ((100 : Int) < (s.size : Int)) = false := by simp; omega
  go_enter Try.func6, Try.ntmps6
  go_wp2
  go_loopw [7, 8] (fun b i wr => ∃ k : Nat, k ≤ m ∧ i = .int .i64 k ∧ IsBytes (zall (l.take k)) b wr ∧ Ext w wr) (fun _ i _ => m - (intOf i).toNat)
  case atStart => exact ⟨0, by omega, rfl, by simpa [zall, bytesC, IsBytes] using (Owns.nil 0 0 1 w).isSl, Ext.refl w⟩
  case round =>
    obtain ⟨k, hk, rfl, hbk, hx⟩ := hrel
    have hlen : (zall (l.take k)).length ≤ 200 := by
      have h1 := zall_len (l.take k) (fun u hu => hll u (List.mem_of_mem_take hu))
      have h2 := Hlm.out
      rw [List.length_take] at h1; omega
    by_cases hlt : k < m
    · obtain ⟨u, hu⟩ : ∃ u, l[k]? = some u := ⟨_, List.getElem?_eq_getElem (by have := Hlm.out; omega)⟩
      have hu64 := hll u (List.mem_of_getElem? hu)
      obtain ⟨blk, off, rfl⟩ := Hb.out.ptr (by rw [List.length_map]; have := Hlm.out; omega)
      have hc : wr.cell? ⟨blk, off + k, none⟩ = some (.int .u64 u) := (Hb.out.ext hx).cellAt (hcells k u hu)
      have Hu := Lib.hid hu
      clear hu
      go_wp2_with (go_at_call 10; refine Calls.mono (put_c _ _ u hu64 _ hbk (by omega)) ?_; rintro _ w1 ⟨v1, rfl, hx1, ho1⟩)
      go_roundw
      case rel => exact ⟨k + 1, by omega, by go_num, by rw [zall_take l k u Hu.out]; exact ho1.isSl, hx.trans hx1⟩
      case measure => simp [intOf]; omega
    · obtain rfl : k = m := by omega
      have hall : l.take k = l := List.take_of_length_le (by have := Hlm.out; omega)
      rw [hall] at hbk hlen
      have Hall := Lib.hid hall
      clear hall
      go_wp2_with (go_at_call 14; refine Calls.mono (putint_c _ _ n hn0 hn1 _ hbk (by omega)) ?_; rintro _ w1 ⟨v1, rfl, hx1, ho1⟩; have hne : bytesC (zall l ++ zb (zfold n)) ≠ [] := (by intro h; have := congrArg List.length h; simp [bytesC_length, zb_length] at this; have := zn_pos (zfold n); omega); obtain ⟨g, N, capB, rfl, hg, hN, hNc, hcmB, hcellB⟩ := ho1.at hne; rw [bytesC_length, Nat.mul_one, List.length_append, zb_length] at hN; have hNp := zn_pos (zfold n); have hN10 := zn_le10 (zfold n) hzf; have HN := Lib.hid hN; have hN0 : 0 < N := (by omega); have hN210 : N ≤ 210 := (by omega); clear hN hne hcellB; obtain ⟨T0, hT0⟩ : (∃ T0 : ByteArray, (⟨(zall l ++ zb (zfold n)).toArray⟩ : ByteArray) = T0) := ⟨_, rfl⟩; have hstr := run_str (P := Try.prog) Try.underlying28 Try.underlying5 Try.underlying9 ho1.isSl; rw [hT0] at hstr; have hT0s : T0.size ≤ 210 := (by rw [← hT0]; have := HN.out; simp [ByteArray.size, zb_length]; omega); have HT0 := Lib.hid hT0; have hNb : ((N : Int) == 0) = false := (by simp; omega); clear hT0)
      clear hlen hbk hstr
      have hTs : (T0 ++ s).size ≤ 1000 := by rw [ByteArray.size_append]; omega
      have hTl : (T0 ++ s).data.toList = zall l ++ (zb (zfold n) ++ s.data.toList) := by
        rw [← HT0.out, ByteArray.data_append, Array.toList_append, List.append_assoc]
      generalize T0 ++ s = T at *
      have HTl := Lib.hid hTl
      clear hTl
      have hx1' := hx.trans hx1
      go_loop [10, 11] (fun p i => ∃ j : Nat, j ≤ k ∧ i = .int .i64 j ∧ p = .int .i64 (zall (l.take j)).length) (fun _ i => k - (intOf i).toNat)
      case atStart => exact ⟨0, by omega, rfl, by simp [zall]⟩
      case round =>
        obtain ⟨j, hj, rfl, rfl⟩ := hrel
        have hlen : (zall (l.take j)).length ≤ 200 := by
          have h1 := zall_len (l.take j) (fun u hu => hll u (List.mem_of_mem_take hu))
          have h2 := Hlm.out
          rw [List.length_take] at h1; omega
        by_cases hlt : j < k
        · obtain ⟨u, hu⟩ : ∃ u, l[j]? = some u := ⟨_, List.getElem?_eq_getElem (by have := Hlm.out; omega)⟩
          have hu64 := hll u (List.mem_of_getElem? hu)
          have hzt := zall_take l j u hu
          have hsplit : ∃ r, T.data.toList = zall (l.take j) ++ (zb u ++ r) := by
            refine ⟨zall (l.drop (j + 1)) ++ (zb (zfold n) ++ s.data.toList), ?_⟩
            rw [HTl.out]
            conv => lhs; rw [← List.take_append_drop (j + 1) l, zall_append, hzt]
            simp
          obtain ⟨r, hr⟩ := hsplit
          have htk := take_c T ((zall (l.take j)).length : Nat) (by omega)
          rw [hr, ztk_at rfl, tk_put u hu64 r, ztkV_ok] at htk
          have Htk := Lib.hid htk
          have hstep : (zall (l.take (j + 1))).length = (zall (l.take j)).length + zn u := by rw [hzt, List.length_append, zb_length]
          have Hstep := Lib.hid hstep
          have hzp := zn_pos u
          have hz10 := zn_le10 u hu64
          generalize hp : (zall (l.take j)).length = p at *
          have Hp := Lib.hid hp
          obtain ⟨blk, off, rfl⟩ := Hb.out.ptr (by rw [List.length_map]; have := Hlm.out; omega)
          have hc : w1.cell? ⟨blk, off + j, none⟩ = some (.int .u64 u) := (Hb.out.ext hx1').cellAt (hcells j u hu)
          have e1 : ((u : Int) != (u : Int)) = false := by simp
          clear htk hstep hr hzt hu hp
          go_wp2_with (first
            | (go_at_call 17; refine (Htk.out _).mono ?_; rintro _ _ ⟨rfl, rfl⟩)
            | (go_at_call 12; refine (size_c u hu64 _).mono ?_; rintro _ _ ⟨rfl, rfl⟩))
          go_round
          case rel => exact ⟨j + 1, by omega, by go_num, is_int (by have := Hstep.out; omega)⟩
          case measure => simp [intOf]; omega
        · obtain rfl : j = k := by omega
          have hall := Hall.out
          rw [hall] at hlen ⊢
          have hN := HN.out
          have hplen : (zall l).length = N - zn (zfold n) := by omega
          have hti := takeint_c T ((zall l).length : Nat) (by omega) _ rfl (ztk_lt _ _)
          rw [HTl.out, ztk_at rfl, tk_put _ hzf _] at hti
          rw [show (zgo (zall l ++ (zb (zfold n) ++ s.data.toList)) (zall l).length (zfold n, zn (zfold n), 0)) = (zfold n, (zall l).length + zn (zfold n), 0) from rfl] at hti
          simp only [zback_fold] at hti
          rw [hN] at hti
          have Hti := Lib.hid hti
          -- a byte less
          have hcut : (zall l ++ zb (zfold n)).take (N - 1) = zall l ++ (zb (zfold n)).take (zn (zfold n) - 1) := by
            rw [List.take_append, List.take_of_length_le (by omega), show N - 1 - (zall l).length = zn (zfold n) - 1 by omega]
          have hbc : IsBytes (zall l ++ (zb (zfold n)).take (zn (zfold n) - 1)) (.slice (some ⟨g, 0, none⟩) (N - 1) capB) w1 := by
            refine ⟨_, N - 1, capB, rfl, ?_, by omega, hcmB, (fun h => by cases h), fun q hq i x hx => ?_⟩
            · rw [bytesC_length, List.length_append, List.length_take, zb_length]; omega
            · cases hq
              rw [addr_add, Nat.zero_add]
              refine ho1.cellAt ?_
              rw [← hcut] at hx
              rw [← hx, bytesC, bytesC, List.getElem?_map, List.getElem?_map, List.getElem?_take, if_pos]
              have h1 := (List.getElem?_eq_some_iff.1 hx).1
              rw [bytesC_length, List.length_take] at h1
              omega
          have hstc := run_str (P := Try.prog) Try.underlying28 Try.underlying5 Try.underlying9 hbc
          obtain ⟨C0, hC0⟩ : (∃ C0 : ByteArray, (⟨(zall l ++ (zb (zfold n)).take (zn (zfold n) - 1)).toArray⟩ : ByteArray) = C0) := ⟨_, rfl⟩
          rw [hC0] at hstc
          have hC0s : C0.size ≤ 210 := by rw [← hC0]; simp [ByteArray.size, zb_length]; omega
          have htc := takeint_c C0 ((zall l).length : Nat) (by omega) _ rfl (ztk_lt _ _)
          rw [← hC0, ztk_at rfl, tk_short _ hzf, hC0] at htc
          rw [show zgo (zall l ++ (zb (zfold n)).take (zn (zfold n) - 1)) (zall l).length (0, 0, 3) = (0, 0, 3) from rfl] at htc
          simp only [show zback 0 = 0 from by simp [zback]] at htc
          have Htc := Lib.hid htc
          -- what stands behind
          have h0 := take_c s 0 (by omega)
          have h0e : ztk s.data.toList 0 = zgo s.data.toList 0 (tk s.data.toList 10 0 0) := by
            have := ztk_at (a := []) (r := s.data.toList) (p := 0) rfl
            simpa using this
          rw [h0e] at h0
          have hlt3 := tk_lt s.data.toList 10 0 0 rfl (by decide)
          have hby := fun u m (h : tk s.data.toList 10 0 0 = (u, m, 0)) => tk_bytes h
          generalize tk s.data.toList 10 0 0 = r3 at *
          obtain ⟨u3, n3, x3⟩ := r3
          simp only at hlt3
          have hpp : ((zall l).length : Int) ≤ 210 := by omega
          generalize (zall l).length = p at *
          clear hti htc hcut hC0 h0e hN hplen hall
          by_cases hx3 : x3 = 0
          · subst hx3
            rw [ztkV_ok, Nat.zero_add] at h0
            obtain ⟨hn3, htake⟩ := hby u3 n3 rfl
            have hn3' : n3 ≤ s.size := by simpa using hn3
            have H0 := Lib.hid h0
            clear h0 hby
            go_wp2_with (first
              | (go_at_call 17; refine (H0.out _).mono ?_; rintro _ _ ⟨rfl, rfl⟩)
              | (go_at_call 19; first | ((with_reducible refine (Hti.out _).mono ?_); rintro _ _ ⟨rfl, rfl⟩) | ((with_reducible refine (Htc.out _).mono ?_); rintro _ _ ⟨rfl, rfl⟩)))
            have e144 : decide ((n3 : Int) ≤ (s.size : Int)) = true := by simpa using hn3'
            have e144b : decide (n3 ≤ s.size) = true := by simpa using hn3'
            have e0n : (0 : Int) ≤ n3 := by omega
            have hext : s.extract 0 n3 = ⟨(zb u3).toArray⟩ := by
              apply ByteArray.ext
              rw [ByteArray.data_extract, ← htake]
              apply Array.ext'
              simp
            refine wp_region_S0 _ (by kernel_rfl) (by kernel_rfl) ?_
            refine' wpS_mv (g := .val _) 15 rfl rfl rfl rfl rfl ?_
            refine' wpS_mv (g := .val _) 1 rfl rfl rfl rfl rfl ?_
            refine' wpS_val (c := _) [(117, _), (118, _)] rfl rfl rfl rfl rfl ⟨rfl, rfl, trivial⟩ (fun w' hx K hK => ?run1) ?_
            case run1 => (simp [go_sem, env, asc, ValOf]; (try go_ints); (first | simp only [e144] | simp only [e144b] | skip); exact hK)
            refine' wpS_mv (g := .val _) 119 rfl rfl rfl rfl rfl ?_
            refine' wpS_mv (g := .val _) 16 rfl rfl rfl rfl rfl ?_
            refine' wpS_mv (g := .val _) 7 rfl rfl rfl rfl rfl ?_
            refine' wpS_val (c := _) [(122, _)] rfl rfl rfl rfl rfl ⟨rfl, trivial⟩ (fun w' hx K hK => ?run2) ?_
            case run2 => (simp [go_sem, env, asc, ValOf]; (try go_ints); exact hK)
            refine' wpS_val (c := _) [(121, _), (123, _)] rfl rfl rfl rfl rfl ⟨rfl, rfl, trivial⟩ (fun w' hx K hK => ?run3) ?_
            case run3 => (simp [go_sem, env, asc, ValOf]; (try go_ints); (first | simp only [e144] | simp only [e144b] | skip); exact hK)
            first | refine' wpS_pick (g := .val _) true rfl rfl rfl rfl rfl rfl ?_ | refine' wpS_pick (g := .val _) false rfl rfl rfl rfl rfl rfl ?_
            refine' wpS_mv (g := .val _) 125 rfl rfl rfl rfl rfl ?_
            refine' wpS_mv (g := .val _) 17 rfl rfl rfl rfl rfl ?_
            refine' wpS_val (c := _) [(127, _)] rfl rfl rfl rfl rfl ⟨rfl, trivial⟩ (fun w' hx K hK => ?run4) ?_
            case run4 => (simp [go_sem, env, asc, ValOf]; (try go_ints); (first | simp only [e144] | simp only [e144b] | skip); exact hK)
            first | refine' wpS_pick (g := .val _) true rfl rfl rfl rfl rfl rfl ?_ | refine' wpS_pick (g := .val _) false rfl rfl rfl rfl rfl rfl ?_
            refine' wpS_mv (g := .val _) 129 rfl rfl rfl rfl rfl ?_
            refine' wpS_mv (g := .val _) 20 rfl rfl rfl rfl rfl ?_
            refine' wpS_val (c := _) [(131, _)] rfl rfl rfl rfl rfl ⟨rfl, trivial⟩ (fun w' hx K hK => ?run5) ?_
            case run5 => (simp [go_sem, env, asc, ValOf]; (try go_ints); (first | simp only [e144] | simp only [e144b] | skip); exact hK)
            first | refine' wpS_pick (g := .val _) true rfl rfl rfl rfl rfl rfl ?_ | refine' wpS_pick (g := .val _) false rfl rfl rfl rfl rfl rfl ?_
            refine' wpS_mv (g := .val _) 133 rfl rfl rfl rfl rfl ?_
            refine' wpS_mv (g := .val _) 23 rfl rfl rfl rfl rfl ?_
            refine' wpS_val (c := _) [(135, _)] rfl rfl rfl rfl rfl ⟨rfl, trivial⟩ (fun w' hx K hK => ?run6) ?_
            case run6 => (simp [go_sem, env, asc, ValOf]; (try go_ints); (first | simp only [e144] | simp only [e144b] | skip); exact hK)
            refine' wpS_mv (g := .val _) 136 rfl rfl rfl rfl rfl ?_
            refine' wpS_mv (g := .val _) 22 rfl rfl rfl rfl rfl ?_
            refine' wpS_val (c := _) [(138, _)] rfl rfl rfl rfl rfl ⟨rfl, trivial⟩ (fun w' hx K hK => ?run7) ?_
            case run7 => (simp [go_sem, env, asc, ValOf]; (try go_ints); (first | simp only [e144] | simp only [e144b] | skip); exact hK)
            refine' wpS_mv (g := .val _) 139 rfl rfl rfl rfl rfl ?_
            refine' wpS_mv (g := .val _) 22 rfl rfl rfl rfl rfl ?_
            refine' wpS_mv (g := .val _) 2 rfl rfl rfl rfl rfl ?_
            refine' wpS_val (c := _) [(142, _)] rfl rfl rfl rfl rfl ⟨rfl, trivial⟩ (fun w' hx K hK => ?run8) ?_
            case run8 => (simp [go_sem, env, asc, ValOf]; (try go_ints); exact hK)
            refine' wpS_val (c := _) [(141, _), (143, _)] rfl rfl rfl rfl rfl ⟨rfl, rfl, trivial⟩ (fun w' hx K hK => ?run9) ?_
            case run9 => (simp [go_sem, env, asc, ValOf]; (try go_ints); (first | simp only [e144] | simp only [e144b] | skip); exact hK)
            first | refine' wpS_pick (g := .val _) true rfl rfl rfl rfl rfl rfl ?_ | refine' wpS_pick (g := .val _) false rfl rfl rfl rfl rfl rfl ?_
            refine' wpS_mv (g := .val _) 145 rfl rfl rfl rfl rfl ?_
            refine' wpS_mv (g := .val _) 21 rfl rfl rfl rfl rfl ?_
            refine' wpS_call (g := (.rep (IsSl 1 (bytesC (zb u3))) (IsSl.stable _ _))) 10 _ [(147, _)] [] rfl rfl rfl rfl ⟨_, Try.func10, by kernel_rfl, by kernel_rfl⟩ rfl ⟨rfl, trivial⟩ trivial (fun w' hx => ?run10) ?_
            case run10 => (exact (put_c [] _ u3 hlt3 w' (Owns.nil 0 0 1 w').isSl (by simp)).isSl)
            refine' wpS_str rfl rfl rfl rfl Try.underlying28 Try.underlying5 Try.underlying9 rfl ?_
            refine' wpS_mv (g := .val _) 2 rfl rfl rfl rfl rfl ?_
            refine' wpS_mv (g := .val _) 22 rfl rfl rfl rfl rfl ?_
            refine' wpS_val (c := _) [(150, _), (151, _)] rfl rfl rfl rfl rfl ⟨rfl, rfl, trivial⟩ (fun w' hx K hK => ?run11) ?_
            case run11 => (simp [go_sem, env, asc, ValOf, hn3', hext]; (try go_ints); exact hK)
            refine' wpS_val (c := _) [(149, _), (152, _)] rfl rfl rfl rfl rfl ⟨rfl, rfl, trivial⟩ (fun w' hx K hK => ?run12) ?_
            case run12 => (simp [go_sem, env, asc, ValOf]; (try go_ints); (first | simp only [e144] | simp only [e144b] | skip); exact hK)
            first | refine' wpS_pick (g := .val _) true rfl rfl rfl rfl rfl rfl ?_ | refine' wpS_pick (g := .val _) false rfl rfl rfl rfl rfl rfl ?_
            first | refine' wpS_pick (g := .val _) true rfl rfl rfl rfl rfl rfl ?_ | refine' wpS_pick (g := .val _) false rfl rfl rfl rfl rfl rfl ?_
            first | refine' wpS_pick (g := .val _) true rfl rfl rfl rfl rfl rfl ?_ | refine' wpS_pick (g := .val _) false rfl rfl rfl rfl rfl rfl ?_
            refine' wpS_mv (g := .val _) 156 rfl rfl rfl rfl rfl ?_
            refine' wpS_call (g := (.val (.bool true))) 9 _ [] [] rfl rfl rfl rfl ⟨_, Try.func9, by kernel_rfl, by kernel_rfl⟩ rfl trivial trivial (fun w' hx => ?run13) ?_
            case run13 => (exact awake_c w')
            first | refine' wpS_pick (g := .val _) true rfl rfl rfl rfl rfl rfl ?_ | refine' wpS_pick (g := .val _) false rfl rfl rfl rfl rfl rfl ?_
            refine' wpS_mv (g := .val _) 159 rfl rfl rfl rfl rfl ?_
            refine wpS_end ?_
            intro w2 e2
            iterate 148 (refine finV rfl ?_)
            refine finR rfl ?_
            intro x148 hx148
            iterate 11 (refine finV rfl ?_)
            refine finE ?_
            try dsimp only
            refine wpList_nil ?_
            (go_wp2; go_ret; exact ⟨_, rfl, hx1'.trans ((Ext.drew _).trans e2), rfl⟩)
          · rw [ztkV_no _ _ _ _ _ hx3] at h0
            have H0 := Lib.hid h0
            have e136 : ((x3 : Int) != 0) = true := by simp; omega
            clear h0 hby
            go_wp2_with (first
              | (go_at_call 17; refine (H0.out _).mono ?_; rintro _ _ ⟨rfl, rfl⟩)
              | (go_at_call 19; first | ((with_reducible refine (Hti.out _).mono ?_); rintro _ _ ⟨rfl, rfl⟩) | ((with_reducible refine (Htc.out _).mono ?_); rintro _ _ ⟨rfl, rfl⟩)))
            refine wp_region_S0 _ (by kernel_rfl) (by kernel_rfl) ?_
            refine' wpS_mv (g := .val _) 15 rfl rfl rfl rfl rfl ?_
            refine' wpS_mv (g := .val _) 1 rfl rfl rfl rfl rfl ?_
            refine' wpS_val (c := _) [(117, _), (118, _)] rfl rfl rfl rfl rfl ⟨rfl, rfl, trivial⟩ (fun w' hx K hK => ?run14) ?_
            case run14 => (simp [go_sem, env, asc, ValOf]; (try go_ints); (first | simp only [e136] | skip); exact hK)
            refine' wpS_mv (g := .val _) 119 rfl rfl rfl rfl rfl ?_
            refine' wpS_mv (g := .val _) 16 rfl rfl rfl rfl rfl ?_
            refine' wpS_mv (g := .val _) 7 rfl rfl rfl rfl rfl ?_
            refine' wpS_val (c := _) [(122, _)] rfl rfl rfl rfl rfl ⟨rfl, trivial⟩ (fun w' hx K hK => ?run15) ?_
            case run15 => (simp [go_sem, env, asc, ValOf]; (try go_ints); exact hK)
            refine' wpS_val (c := _) [(121, _), (123, _)] rfl rfl rfl rfl rfl ⟨rfl, rfl, trivial⟩ (fun w' hx K hK => ?run16) ?_
            case run16 => (simp [go_sem, env, asc, ValOf]; (try go_ints); (first | simp only [e136] | skip); exact hK)
            first | refine' wpS_pick (g := .val _) true rfl rfl rfl rfl rfl rfl ?_ | refine' wpS_pick (g := .val _) false rfl rfl rfl rfl rfl rfl ?_
            refine' wpS_mv (g := .val _) 125 rfl rfl rfl rfl rfl ?_
            refine' wpS_mv (g := .val _) 17 rfl rfl rfl rfl rfl ?_
            refine' wpS_val (c := _) [(127, _)] rfl rfl rfl rfl rfl ⟨rfl, trivial⟩ (fun w' hx K hK => ?run17) ?_
            case run17 => (simp [go_sem, env, asc, ValOf]; (try go_ints); (first | simp only [e136] | skip); exact hK)
            first | refine' wpS_pick (g := .val _) true rfl rfl rfl rfl rfl rfl ?_ | refine' wpS_pick (g := .val _) false rfl rfl rfl rfl rfl rfl ?_
            refine' wpS_mv (g := .val _) 129 rfl rfl rfl rfl rfl ?_
            refine' wpS_mv (g := .val _) 20 rfl rfl rfl rfl rfl ?_
            refine' wpS_val (c := _) [(131, _)] rfl rfl rfl rfl rfl ⟨rfl, trivial⟩ (fun w' hx K hK => ?run18) ?_
            case run18 => (simp [go_sem, env, asc, ValOf]; (try go_ints); (first | simp only [e136] | skip); exact hK)
            first | refine' wpS_pick (g := .val _) true rfl rfl rfl rfl rfl rfl ?_ | refine' wpS_pick (g := .val _) false rfl rfl rfl rfl rfl rfl ?_
            refine' wpS_mv (g := .val _) 133 rfl rfl rfl rfl rfl ?_
            refine' wpS_mv (g := .val _) 23 rfl rfl rfl rfl rfl ?_
            refine' wpS_val (c := _) [(135, _)] rfl rfl rfl rfl rfl ⟨rfl, trivial⟩ (fun w' hx K hK => ?run19) ?_
            case run19 => (simp [go_sem, env, asc, ValOf]; (try go_ints); (first | simp only [e136] | skip); exact hK)
            refine' wpS_mv (g := .val _) 136 rfl rfl rfl rfl rfl ?_
            refine wpS_skip rfl rfl rfl ?_
            refine wpS_skip rfl rfl rfl ?_
            refine wpS_skip rfl rfl rfl ?_
            refine wpS_skip rfl rfl rfl ?_
            refine wpS_skip rfl rfl rfl ?_
            refine wpS_skip rfl rfl rfl ?_
            refine wpS_skip rfl rfl rfl ?_
            refine wpS_skip rfl rfl rfl ?_
            refine wpS_skip rfl rfl rfl ?_
            refine wpS_skip rfl rfl rfl ?_
            refine wpS_skip rfl rfl rfl ?_
            refine wpS_skip rfl rfl rfl ?_
            refine wpS_skip rfl rfl rfl ?_
            refine wpS_skip rfl rfl rfl ?_
            refine wpS_skip rfl rfl rfl ?_
            refine wpS_skip rfl rfl rfl ?_
            refine wpS_skip rfl rfl rfl ?_
            first | refine' wpS_pick (g := .val _) true rfl rfl rfl rfl rfl rfl ?_ | refine' wpS_pick (g := .val _) false rfl rfl rfl rfl rfl rfl ?_
            first | refine' wpS_pick (g := .val _) true rfl rfl rfl rfl rfl rfl ?_ | refine' wpS_pick (g := .val _) false rfl rfl rfl rfl rfl rfl ?_
            refine' wpS_mv (g := .val _) 156 rfl rfl rfl rfl rfl ?_
            refine' wpS_call (g := (.val (.bool true))) 9 _ [] [] rfl rfl rfl rfl ⟨_, Try.func9, by kernel_rfl, by kernel_rfl⟩ rfl trivial trivial (fun w' hx => ?run20) ?_
            case run20 => (exact awake_c w')
            first | refine' wpS_pick (g := .val _) true rfl rfl rfl rfl rfl rfl ?_ | refine' wpS_pick (g := .val _) false rfl rfl rfl rfl rfl rfl ?_
            refine' wpS_mv (g := .val _) 159 rfl rfl rfl rfl rfl ?_
            refine wpS_end ?_
            intro w2 e2
            iterate 160 (refine finV rfl ?_)
            refine finE ?_
            try dsimp only
            refine wpList_nil ?_
            (go_wp2; go_ret; exact ⟨_, rfl, hx1'.trans ((Ext.drew _).trans e2), rfl⟩)
theorem own_ZigBack : ownKnob Try.prog.godebug = none := by kernel_rfl
theorem laidOut_ZigBack : laidOutB Try.prog = true := by kernel_rfl
set_option maxRecDepth 100000 in
theorem lifted_ZigBack (os : Os) (started : os.Started) (H : Type) (enc : TypeId × Value → H) :
    ReturnsInHanded {} Try.checked os 6 .any (Rows.zigBackSpec.pre6 enc Try.prog Try.f6 Rows.zigBackRow.domain false) (Rows.zigBackSpec.post enc Try.prog Try.f6 false true false false) := by
  refine returnsInHanded_of_change (C := Try.checked) own_ZigBack started (by kernel_rfl) Try.func6
    (ChangeSpec.witness6 (enc := enc) (C := Try.checked) false ⟨#[], #[.slice none 0 0, .int .i64 0, .string ⟨#[]⟩], []⟩ 8 (by kernel_rfl) (by kernel_rfl) (by kernel_rfl) (by kernel_rfl)) ?_
  intro W base args ds gs before hval0 hW hcnd _
  have hval : ∀ (j : Nat) t v, Try.f6.params[j]? = some t → args[j]? = some v → Value.okWide Try.prog W .any base t v := hval0
  have hW' := hW
  obtain ⟨p, q, hA0, hV, rfl, hfz, hnd⟩ := hW
  have hA : DataW.TrodAll enc Try.prog W 0 (fun _ => true) true Try.f6.params.toList args.toList ds p := hA0
  rw [Try.params6] at hA hval
  have hAll := hA
  obtain ⟨v0, vs0, d0, ds0, p0, q0, hargs, rfl, rfl, h0, r0⟩ := trodAll_cons hA
  obtain ⟨v1, vs1, d1, ds1, p1, q1, rfl, rfl, rfl, h1, r1⟩ := trodAll_cons r0
  obtain ⟨v2, vs2, d2, ds2, p2, q2, rfl, rfl, rfl, h2, r2⟩ := trodAll_cons r1
  obtain ⟨rfl, rfl, rfl⟩ := trodAll_nil r2
  obtain rfl : args = #[v0, v1, v2] := by cases args; simp_all
  obtain ⟨rfl, rfl⟩ := trodVars_none hV
  obtain ⟨l0, w0, x0⟩ := op_slice_ints Try.underlying40 Try.underlying23 (by kernel_rfl) (hval 0 40 v0 rfl rfl) h0
  obtain ⟨a1, rfl, rfl, rfl, w1⟩ := open_int Try.underlying3 (hval 1 3 v1 rfl rfl) h1
  obtain ⟨s2, rfl, rfl, rfl, w2⟩ := open_string Try.underlying9 (hval 2 9 v2 rfl rfl) h2
  clear hA0 hval0
  refine Calls.mono (law_ZigBack W v0 l0 w0 x0 a1 (bounds_i64 w1) s2 w2) fun e W' ⟨v, he, bel, hv⟩ => ?_
  subst he
  subst hv
  exact ⟨_, rfl, _, _, _, [], _, [], hW', trodAll_mk1 (shut_bool Try.underlying4 _), trodAll_below laidOut_ZigBack bel (by kernel_rfl) hAll, rfl, bel.frame _, fun h => by cases h⟩
/-- The statement. -/
theorem holds_ZigBack : Rows.ZigBackSaid :=
  OpenClaim.holds_of_wide 6 Try.f6 rfl rfl rfl rfl rfl rfl rfl ⟨rfl, rfl, rfl, rfl, rfl⟩ rfl rfl rfl rfl rfl (by kernel_rfl) Try.func6 (by kernel_rfl)
    (of_decide_eq_true (by kernel_rfl)) (by unfold Func.isWrapper; first | (rw [if_pos (by decide +kernel)]; kernel_rfl) | (rw [if_neg (by decide +kernel)]; exact ⟨rfl, rfl⟩))
    (fun os started H enc _ => lifted_ZigBack os started H enc)
end Go.Proofs.Ytnhabcmemadgcaa
