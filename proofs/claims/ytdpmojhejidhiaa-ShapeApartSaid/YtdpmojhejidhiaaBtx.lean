/- lex.text: a walk. -/
import Derived.Test.YtdpmojhejidhiaaBld
import Derived.Test.YtdpmojhejidhiaaShelf
namespace Go.Proofs.Ytdpmojhejidhiaa.B
open Go.RowKit Go.Shelf
set_option linter.unusedVariables false
set_option linter.unusedSimpArgs false
attribute [local go_sem] Oper.semAt_some
def hexC (n : Nat) : UInt8 := ([48, 49, 50, 51, 52, 53, 54, 55, 56, 57, 97, 98, 99, 100, 101, 102] : List UInt8).getD n 0
/-- A byte within a text's literal. -/
def escC (c : UInt8) : List UInt8 := if c.toNat = 39 then [39, 39] else if c.toNat < 32 ∨ 126 < c.toNat ∨ c.toNat = 92 then [92, hexC (c.toNat / 16), hexC (c.toNat % 16)] else [c]
theorem hexL : ∀ (n : Nat) (h : n < 16), (⟨#[48, 49, 50, 51, 52, 53, 54, 55, 56, 57, 97, 98, 99, 100, 101, 102]⟩ : ByteArray)[n]'h = hexC n := by
  have h : ∀ n : Fin 16, (⟨#[48, 49, 50, 51, 52, 53, 54, 55, 56, 57, 97, 98, 99, 100, 101, 102]⟩ : ByteArray)[n.1]'n.2 = hexC n.1 := by decide
  exact fun n hn => h ⟨n, hn⟩
theorem cells_app (a b : List UInt8) : Lib.byteCells (a ++ b) = Lib.byteCells a ++ Lib.byteCells b := by simp [Lib.byteCells]
set_option maxHeartbeats 1000000 in
set_option maxRecDepth 1000000 in
theorem lex_text (s : ByteArray) (w : World) (hs : s.size ≤ 1000000000) :
    Calls Try.prog 64 #[.string s] w fun e w' => e = .returned (.string ⟨(39 :: (s.data.toList.flatMap escC ++ [39])).toArray⟩) ∧ Below w.heap.size w w' := by
  go_enter Try.func64, Try.ntmps64
  go_wp2_with (go_at_call 76; refine (put_byte w.heap.size w.heap.size [] 39 _ (Lib.fresh_isBuilder bT u8T w) (by decide) (by simp)).mono ?_)
  rintro e W1 ⟨rfl, h1, b1⟩
  have b0 : Below w.heap.size w W1 := ((Below.refl _ w).alloc (Nat.le_refl _) _).trans b1
  go_wp2
  go_loopw [9] (fun i wr => ∃ k : Nat, k ≤ s.size ∧ i = .int .i64 k ∧ Lib.BuilderAt bT u8T w.heap.size w.heap.size (.pointer (some ⟨w.heap.size, 0, none⟩)) (Lib.byteCells (39 :: (s.data.toList.take k).flatMap escC)) wr ∧ Below w.heap.size w wr ∧ ((s.data.toList.take k).flatMap escC).length ≤ 3 * k) (fun i _ => s.size - (Lib.intOf i).toNat)
  case atStart =>
    exact ⟨0, Nat.zero_le _, by simp, by simpa [Lib.byteCells] using h1, b0, by simp⟩
  case round =>
    obtain ⟨k, hk, rfl, hB, hb, hl⟩ := hrel
    have hbs := hb.size
    by_cases hlt : k < s.size
    · have hsk : s[k]? = some s[k] := getElem?_pos s k hlt
      generalize hc : s[k] = c at hsk
      have htk : s.data.toList.take (k + 1) = s.data.toList.take k ++ [c] := by
        have e : s.data.toList.length = s.size := by simp
        have e2 : s.data.toList[k]'(by omega) = c := by rw [← hc, ByteArray.getElem_eq_getElem_data]; simp
        rw [List.take_add_one, List.getElem?_eq_getElem (by omega), e2]; rfl
      have hcl := c.toNat_lt
      by_cases h39 : c.toNat = 39
      · go_wp2_with (go_at_call 77; refine (put_string w.heap.size w.heap.size _ ⟨#[39, 39]⟩ _ (.inr hB) (by rw [Lib.byteCells_length, List.length_cons]; show _ + 1 + 2 ≤ _; omega) (by omega)).mono ?_)
        rintro e W2 ⟨rfl, h2, b2⟩
        go_wp2
        go_roundw
        case rel =>
          refine ⟨k + 1, by omega, by simp, ?_, hb.trans b2, ?_⟩
          · have e : [c].flatMap escC = [39, 39] := by simp [escC, h39]
            rw [htk, List.flatMap_append, e, ← List.cons_append, cells_app]
            exact h2
          · rw [htk, List.flatMap_append, List.length_append]
            have : [c].flatMap escC = [39, 39] := by simp [escC, h39]
            rw [this]; show _ + 2 ≤ _; omega
        case measure => simp only [Lib.intOf]; omega
      · by_cases q1 : c.toNat < 32
        · skip
          go_wp2_with (go_at_call 76; refine (put_byte w.heap.size w.heap.size _ 92 _ (.inr hB) (by rw [Lib.byteCells_length, List.length_cons]; omega) (by omega)).mono ?_)
          first | rintro e W2 rfl h2 b2 | rintro e W2 ⟨rfl, h2, b2⟩
          have hb2 := b2.size
          go_wp2_with (go_at_call 76; refine (put_byte w.heap.size w.heap.size _ _ _ (.inr h2) (by rw [List.length_append, Lib.byteCells_length, List.length_cons, List.length_singleton]; omega) (by omega)).mono ?_)
          first | rintro e W3 rfl h3 b3 | rintro e W3 ⟨rfl, h3, b3⟩
          have hb3 := b3.size
          go_wp2_with (go_at_call 76; refine (put_byte w.heap.size w.heap.size _ _ _ (.inr h3) (by rw [List.length_append, List.length_append, Lib.byteCells_length, List.length_cons, List.length_singleton, List.length_singleton]; omega) (by omega)).mono ?_)
          first | rintro e W4 rfl h4 b4 | rintro e W4 ⟨rfl, h4, b4⟩
          rw [hexL, hexL] at h4
          go_wp2
          go_roundw
          case rel =>
            have e : [c].flatMap escC = [92, hexC (c.toNat / 16), hexC (c.toNat % 16)] := by
              simp only [List.flatMap_cons, List.flatMap_nil, List.append_nil, escC]
              rw [if_neg h39, if_pos (by omega)]
            refine ⟨k + 1, by omega, by simp, ?_, ((hb.trans b2).trans b3).trans b4, ?_⟩
            · rw [htk, List.flatMap_append, e, ← List.cons_append, cells_app]
              simpa [Lib.byteCells] using h4
            · rw [htk, List.flatMap_append, List.length_append, e]; show _ + 3 ≤ _; omega
          case measure => simp only [Lib.intOf]; omega
        · by_cases q2 : 126 < c.toNat
          · skip
            go_wp2_with (go_at_call 76; refine (put_byte w.heap.size w.heap.size _ 92 _ (.inr hB) (by rw [Lib.byteCells_length, List.length_cons]; omega) (by omega)).mono ?_)
            first | rintro e W2 rfl h2 b2 | rintro e W2 ⟨rfl, h2, b2⟩
            have hb2 := b2.size
            go_wp2_with (go_at_call 76; refine (put_byte w.heap.size w.heap.size _ _ _ (.inr h2) (by rw [List.length_append, Lib.byteCells_length, List.length_cons, List.length_singleton]; omega) (by omega)).mono ?_)
            first | rintro e W3 rfl h3 b3 | rintro e W3 ⟨rfl, h3, b3⟩
            have hb3 := b3.size
            go_wp2_with (go_at_call 76; refine (put_byte w.heap.size w.heap.size _ _ _ (.inr h3) (by rw [List.length_append, List.length_append, Lib.byteCells_length, List.length_cons, List.length_singleton, List.length_singleton]; omega) (by omega)).mono ?_)
            first | rintro e W4 rfl h4 b4 | rintro e W4 ⟨rfl, h4, b4⟩
            rw [hexL, hexL] at h4
            go_wp2
            go_roundw
            case rel =>
              have e : [c].flatMap escC = [92, hexC (c.toNat / 16), hexC (c.toNat % 16)] := by
                simp only [List.flatMap_cons, List.flatMap_nil, List.append_nil, escC]
                rw [if_neg h39, if_pos (by omega)]
              refine ⟨k + 1, by omega, by simp, ?_, ((hb.trans b2).trans b3).trans b4, ?_⟩
              · rw [htk, List.flatMap_append, e, ← List.cons_append, cells_app]
                simpa [Lib.byteCells] using h4
              · rw [htk, List.flatMap_append, List.length_append, e]; show _ + 3 ≤ _; omega
            case measure => simp only [Lib.intOf]; omega
          · by_cases q3 : c.toNat = 92
            · skip
              go_wp2_with (go_at_call 76; refine (put_byte w.heap.size w.heap.size _ 92 _ (.inr hB) (by rw [Lib.byteCells_length, List.length_cons]; omega) (by omega)).mono ?_)
              first | rintro e W2 rfl h2 b2 | rintro e W2 ⟨rfl, h2, b2⟩
              have hb2 := b2.size
              go_wp2_with (go_at_call 76; refine (put_byte w.heap.size w.heap.size _ _ _ (.inr h2) (by rw [List.length_append, Lib.byteCells_length, List.length_cons, List.length_singleton]; omega) (by omega)).mono ?_)
              first | rintro e W3 rfl h3 b3 | rintro e W3 ⟨rfl, h3, b3⟩
              have hb3 := b3.size
              go_wp2_with (go_at_call 76; refine (put_byte w.heap.size w.heap.size _ _ _ (.inr h3) (by rw [List.length_append, List.length_append, Lib.byteCells_length, List.length_cons, List.length_singleton, List.length_singleton]; omega) (by omega)).mono ?_)
              first | rintro e W4 rfl h4 b4 | rintro e W4 ⟨rfl, h4, b4⟩
              rw [hexL, hexL] at h4
              go_wp2
              go_roundw
              case rel =>
                have e : [c].flatMap escC = [92, hexC (c.toNat / 16), hexC (c.toNat % 16)] := by
                  simp only [List.flatMap_cons, List.flatMap_nil, List.append_nil, escC]
                  rw [if_neg h39, if_pos (by omega)]
                refine ⟨k + 1, by omega, by simp, ?_, ((hb.trans b2).trans b3).trans b4, ?_⟩
                · rw [htk, List.flatMap_append, e, ← List.cons_append, cells_app]
                  simpa [Lib.byteCells, q3] using h4
                · rw [htk, List.flatMap_append, List.length_append, e]; show _ + 3 ≤ _; omega
              case measure => simp only [Lib.intOf]; omega
            · have h39' : (((c.toNat : Nat) : Int) == 39) = false := by rw [beq_eq_false_iff_ne]; omega
              have q3' : (((c.toNat : Nat) : Int) == 92) = false := by rw [beq_eq_false_iff_ne]; omega
              go_wp2_with (go_at_call 76; go_loud (refine (put_byte w.heap.size w.heap.size _ (c.toNat : Int) _ (.inr hB) (by rw [Lib.byteCells_length, List.length_cons]; omega) (by omega)).mono ?_))
              first | rintro e W2 rfl h2 b2 | rintro e W2 ⟨rfl, h2, b2⟩
              go_wp2
              go_roundw
              case rel =>
                have e : [c].flatMap escC = [c] := by
                  simp only [List.flatMap_cons, List.flatMap_nil, List.append_nil, escC]
                  rw [if_neg h39, if_neg (by omega)]
                refine ⟨k + 1, by omega, by simp, ?_, hb.trans b2, ?_⟩
                · rw [htk, List.flatMap_append, e, ← List.cons_append, cells_app]
                  simpa [Lib.byteCells] using h2
                · rw [htk, List.flatMap_append, List.length_append, e]; show _ + 1 ≤ _; omega
              case measure => simp only [Lib.intOf]; omega
    · obtain rfl : k = s.size := by omega
      go_wp2_with (go_at_call 76; refine (put_byte w.heap.size w.heap.size _ 39 _ (.inr hB) (by rw [Lib.byteCells_length, List.length_cons]; omega) (by omega)).mono ?_)
      rintro e W2 ⟨rfl, h2, b2⟩
      have hb2 := b2.size
      go_wp2_with (go_at_call 78; refine (Try.Builder_String_any w.heap.size w.heap.size (39 :: ((s.data.toList.take s.size).flatMap escC ++ [39])) _ (.inr (by simpa [Lib.byteCells] using h2)) (by omega)).mono ?_)
      rintro e W3 ⟨rfl, b3⟩
      go_wp2
      go_ret
      refine ⟨?_, (hb.trans b2).trans b3⟩
      rw [List.take_of_length_le (by simp)]; rfl
end Go.Proofs.Ytdpmojhejidhiaa.B
