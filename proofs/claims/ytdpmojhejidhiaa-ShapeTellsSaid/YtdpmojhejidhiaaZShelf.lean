/- Contracts of the library, laid at this program by the kit's own commands, in plain words. -/
import Derived.Shelf.Strings.Builder1
import Derived.Shelf.Strings.BuilderF
import Derived.Shelf.Strings.BuilderK
import Derived.Shelf.Strings.BuilderCap
import Derived.Test.YtdpmojhejidhiaaProg
import Derived.Test.YtdpmojhejidhiaaZAk
set_option linter.unusedVariables false
set_option linter.unusedSimpArgs false
namespace Go.Proofs
open Go.Shelf
def Try.lays169_ren : Go.Shelf.Ren := ⟨fun | 169 => 78 | n => n, fun | 70 => 112 | 9 => 9 | 0 => 0 | 72 => 114 | 37 => 109 | 127 => 131 | 3 => 3 | 5 => 5 | n => n, fun | n => n⟩
theorem Try.lays169 : Go.Proofs.Lays.n169 Try.prog Try.lays169_ren := {
  mixed := by kernel_rfl
  f169 := Try.func78.trans (congrArg some (by kernel_rfl))
  t0 := Try.underlying0
  a0 := Try.isAgg0
  z0 := Try.sizeOf0
  v0 := Try.zeroValue0
  t3 := Try.underlying3
  a3 := Try.isAgg3
  z3 := Try.sizeOf3
  v3 := Try.zeroValue3
  t9 := Try.underlying9
  a9 := Try.isAgg9
  z9 := Try.sizeOf9
  v9 := Try.zeroValue9
  t37 := Try.underlying109
  a37 := Try.isAgg109
  z37 := Try.sizeOf109
  v37 := Try.zeroValue109
  t70 := Try.underlying112
  a70 := Try.isAgg112
  z70 := Try.sizeOf112
  v70 := Try.zeroValue112
  t72 := Try.underlying114
  a72 := Try.isAgg114
  z72 := Try.sizeOf114
  v72 := Try.zeroValue114
  t127 := Try.underlying131
  a127 := Try.isAgg131
  z127 := Try.sizeOf131
  v127 := Try.zeroValue131 }
theorem Try.Builder_Extra_169 : Builder.Extra Try.prog Try.lays169_ren := {
  sizeBuilder := by kernel_rfl
  liesBuilder := by kernel_rfl
  t5 := Try.underlying5
  a5 := Try.isAgg5
  z5 := Try.sizeOf5
  v5 := Try.zeroValue5
  infoByte := by kernel_rfl
  cellsByte := by kernel_rfl
  sizeByte := by kernel_rfl
  neB5 := by decide }
open Go.RowKit in
/-- (*strings.Builder).String: "String returns the accumulated string.": OF A BUILDER THAT HOLDS AT LEAST ONE BYTE. ✋ THE MODEL FREEZES THOSE BYTES IN THE BUFFER (unsafe.String): a later write INTO them ends the model's run without an answer; a later append BEHIND them goes on. The statement's order of evaluation is drawn: one draw. (LAID: no walk: one application.) -/
theorem Try.Builder_String (B b : Nat) (l : List UInt8) (w : World) (h : Lib.IsBuilder 114 5 B b (Lib.byteCells l) w) (h0 : l ≠ []) :
    Calls Try.prog 78 #[.pointer (some ⟨b, 0, none⟩)] w fun e w' => e = .returned (.string ⟨l.toArray⟩) ∧ Below B w w' := Any.Builder_String Try.lays169 Try.Builder_Extra_169 B b l w h h0
open Go.RowKit in
/-- (*strings.Builder).String OF A BUILDER THAT HOLDS NO BYTE: the empty string. (Its buffer is nil, or a row of which it has taken nothing yet; where that row has NO capacity the model lays one new block for unsafe.SliceData's 'some address'.) One draw. (LAID: no walk: one application.) -/
theorem Try.Builder_String_empty (B b : Nat) (w : World) (h : Lib.IsBuilder 114 5 B b [] w) (hBw : B ≤ w.heap.size) :
    Calls Try.prog 78 #[.pointer (some ⟨b, 0, none⟩)] w fun e w' => e = .returned (.string ⟨#[]⟩) ∧ Below B w w' := Any.Builder_String_empty Try.lays169 Try.Builder_Extra_169 B b w h hBw
open Go.RowKit in
/-- (*strings.Builder).String: "String returns the accumulated string.": WHATEVER THE BUILDER HOLDS. (LAID: no walk: one application.) -/
theorem Try.Builder_String_any (B b : Nat) (l : List UInt8) (w : World) (h : Lib.IsBuilder 114 5 B b (Lib.byteCells l) w) (hBw : B ≤ w.heap.size) :
    Calls Try.prog 78 #[.pointer (some ⟨b, 0, none⟩)] w fun e w' => e = .returned (.string ⟨l.toArray⟩) ∧ Below B w w' := Any.Builder_String_any Try.lays169 Try.Builder_Extra_169 B b l w h hBw
open Go.RowKit in
/-- (*strings.Builder).String: "String returns the accumulated string.": OF A BUILDER THAT HOLDS AT LEAST ONE BYTE. ✋ THE MODEL FREEZES THOSE BYTES IN THE BUFFER (unsafe.String): a later write INTO them ends the model's run without an answer; a later append BEHIND them goes on. The statement's order of evaluation is drawn: one draw. THE FORM '_f': IT SAYS BESIDES THAT THE BUILDER IS A BUILDER STILL ('Lib.IsBuilderF', the same bytes): SO IT CAN BE WRITTEN ON: 'b.WriteString(b.String()[:k])'. (LAID: no walk: one application.) -/
theorem Try.Builder_String_f (B b : Nat) (l : List UInt8) (w : World) (h : Lib.IsBuilderF 114 5 B b (Lib.byteCells l) w) (h0 : l ≠ []) :
    Calls Try.prog 78 #[.pointer (some ⟨b, 0, none⟩)] w fun e w' => e = .returned (.string ⟨l.toArray⟩) ∧ (Lib.IsBuilderF 114 5 B b (Lib.byteCells l) w' ∧ Below B w w') := Any.Builder_String_f Try.lays169 Try.Builder_Extra_169 B b l w h h0
open Go.RowKit in
/-- (*strings.Builder).String OF A BUILDER THAT HOLDS NO BYTE: the empty string; THE FORM '_f': a builder still. (LAID: no walk: one application.) -/
theorem Try.Builder_String_empty_f (B b : Nat) (w : World) (h : Lib.IsBuilderF 114 5 B b [] w) (hBw : B ≤ w.heap.size) :
    Calls Try.prog 78 #[.pointer (some ⟨b, 0, none⟩)] w fun e w' => e = .returned (.string ⟨#[]⟩) ∧ (Lib.IsBuilderF 114 5 B b [] w' ∧ Below B w w') := Any.Builder_String_empty_f Try.lays169 Try.Builder_Extra_169 B b w h hBw
open Go.RowKit in
/-- (*strings.Builder).String: "String returns the accumulated string.": WHATEVER THE BUILDER HOLDS; THE FORM '_f': OF A BUILDER THAT MAY HAVE BEEN READ BEFORE; AND IT IS A BUILDER STILL, holding the same bytes: it can be written on. (LAID: no walk: one application.) -/
theorem Try.Builder_String_any_f (B b : Nat) (l : List UInt8) (w : World) (h : Lib.IsBuilderF 114 5 B b (Lib.byteCells l) w) (hBw : B ≤ w.heap.size) :
    Calls Try.prog 78 #[.pointer (some ⟨b, 0, none⟩)] w fun e w' => e = .returned (.string ⟨l.toArray⟩) ∧ (Lib.IsBuilderF 114 5 B b (Lib.byteCells l) w' ∧ Below B w w') := Any.Builder_String_any_f Try.lays169 Try.Builder_Extra_169 B b l w h hBw
open Go.RowKit in
/-- (*strings.Builder).String: "String returns the accumulated string.": OF A BUILDER THAT HOLDS AT LEAST ONE BYTE. ✋ THE MODEL FREEZES THOSE BYTES IN THE BUFFER (unsafe.String): a later write INTO them ends the model's run without an answer; a later append BEHIND them goes on. The statement's order of evaluation is drawn: one draw. THE FORM '_k': OVER 'Lib.IsBuilderF' (a builder that 'String()' may have read), AND WITH THE FRAME THAT REACHES ABOVE THE BUILDER: 'Lib.OthersKept': every block that is not b and is no row of uint8's stands as it stood: the iterator of a range among them. (LAID: no walk: one application.) -/
theorem Try.Builder_String_k (B b : Nat) (l : List UInt8) (w : World) (h : Lib.IsBuilderF 114 5 B b (Lib.byteCells l) w) (h0 : l ≠ []) :
    Calls Try.prog 78 #[.pointer (some ⟨b, 0, none⟩)] w fun e w' => e = .returned (.string ⟨l.toArray⟩) ∧ (Lib.IsBuilderF 114 5 B b (Lib.byteCells l) w' ∧ Below B w w' ∧ Lib.OthersKept 5 (some b) w w') := Any.Builder_String_k Try.lays169 Try.Builder_Extra_169 B b l w h h0
open Go.RowKit in
/-- (*strings.Builder).String OF A BUILDER THAT HOLDS NO BYTE: the empty string; THE FORM '_k': OVER 'Lib.IsBuilderF' (a builder that 'String()' may have read), AND WITH THE FRAME THAT REACHES ABOVE THE BUILDER: 'Lib.OthersKept': every block that is not b and is no row of uint8's stands as it stood: the iterator of a range among them. (LAID: no walk: one application.) -/
theorem Try.Builder_String_empty_k (B b : Nat) (w : World) (h : Lib.IsBuilderF 114 5 B b [] w) (hBw : B ≤ w.heap.size) :
    Calls Try.prog 78 #[.pointer (some ⟨b, 0, none⟩)] w fun e w' => e = .returned (.string ⟨#[]⟩) ∧ (Lib.IsBuilderF 114 5 B b [] w' ∧ Below B w w' ∧ Lib.OthersKept 5 (some b) w w') := Any.Builder_String_empty_k Try.lays169 Try.Builder_Extra_169 B b w h hBw
open Go.RowKit in
/-- (*strings.Builder).String: "String returns the accumulated string.": WHATEVER THE BUILDER HOLDS; THE FORM '_k': OVER 'Lib.IsBuilderF' (a builder that 'String()' may have read), AND WITH THE FRAME THAT REACHES ABOVE THE BUILDER: 'Lib.OthersKept': every block that is not b and is no row of uint8's stands as it stood: the iterator of a range among them. (LAID: no walk: one application.) -/
theorem Try.Builder_String_any_k (B b : Nat) (l : List UInt8) (w : World) (h : Lib.IsBuilderF 114 5 B b (Lib.byteCells l) w) (hBw : B ≤ w.heap.size) :
    Calls Try.prog 78 #[.pointer (some ⟨b, 0, none⟩)] w fun e w' => e = .returned (.string ⟨l.toArray⟩) ∧ (Lib.IsBuilderF 114 5 B b (Lib.byteCells l) w' ∧ Below B w w' ∧ Lib.OthersKept 5 (some b) w w') := Any.Builder_String_any_k Try.lays169 Try.Builder_Extra_169 B b l w h hBw
end Go.Proofs

namespace Go.Proofs.Ytdpmojhejidhiaa.B
open Go.RowKit Go.Shelf
attribute [local go_sem] Oper.semAt_some
def hexC (n : Nat) : UInt8 := ([48, 49, 50, 51, 52, 53, 54, 55, 56, 57, 97, 98, 99, 100, 101, 102] : List UInt8).getD n 0
/-- A byte within a text's literal. -/
def escC (c : UInt8) : List UInt8 := if c.toNat = 39 then [39, 39] else if c.toNat < 32 ∨ 126 < c.toNat ∨ c.toNat = 92 then [92, hexC (c.toNat / 16), hexC (c.toNat % 16)] else [c]
theorem hexL : ∀ (n : Nat) (h : n < 16), (⟨#[48, 49, 50, 51, 52, 53, 54, 55, 56, 57, 97, 98, 99, 100, 101, 102]⟩ : ByteArray)[n]'h = hexC n := by
  have h : ∀ n : Fin 16, (⟨#[48, 49, 50, 51, 52, 53, 54, 55, 56, 57, 97, 98, 99, 100, 101, 102]⟩ : ByteArray)[n.1]'n.2 = hexC n.1 := by decide
  exact fun n hn => h ⟨n, hn⟩
theorem cells_app (a b : List UInt8) : Lib.byteCells (a ++ b) = Lib.byteCells a ++ Lib.byteCells b := by simp [Lib.byteCells]
set_option maxHeartbeats 1000000 in
set_option maxRecDepth 1000000 in
theorem lex_text (s : ByteArray) (w : World) (hs : s.size ≤ 1000000000) :
    Calls Try.prog 64 #[.string s] w fun e w' => e = .returned (.string ⟨(39 :: (s.data.toList.flatMap escC ++ [39])).toArray⟩) ∧ Below w.heap.size w w' := by
  go_enter Try.func64, Try.ntmps64
  go_wp2_with (go_at_call 76; refine (put_byte w.heap.size w.heap.size [] 39 _ (Lib.fresh_isBuilder bT u8T w) (by decide) (by simp)).mono ?_)
  rintro e W1 ⟨rfl, h1, b1⟩
  have b0 : Below w.heap.size w W1 := ((Below.refl _ w).alloc (Nat.le_refl _) _).trans b1
  go_wp2
  go_loopw [9] (fun i wr => ∃ k : Nat, k ≤ s.size ∧ i = .int .i64 k ∧ Lib.BuilderAt bT u8T w.heap.size w.heap.size (.pointer (some ⟨w.heap.size, 0, none⟩)) (Lib.byteCells (39 :: (s.data.toList.take k).flatMap escC)) wr ∧ Below w.heap.size w wr ∧ ((s.data.toList.take k).flatMap escC).length ≤ 3 * k) (fun i _ => s.size - (Lib.intOf i).toNat)
  case atStart =>
    exact ⟨0, Nat.zero_le _, by simp, by simpa [Lib.byteCells] using h1, b0, by simp⟩
  case round =>
    obtain ⟨k, hk, rfl, hB, hb, hl⟩ := hrel
    have hbs := hb.size
    by_cases hlt : k < s.size
    · have hsk : s[k]? = some s[k] := getElem?_pos s k hlt
      generalize hc : s[k] = c at hsk
      have htk : s.data.toList.take (k + 1) = s.data.toList.take k ++ [c] := by
        have e : s.data.toList.length = s.size := by simp
        have e2 : s.data.toList[k]'(by omega) = c := by rw [← hc, ByteArray.getElem_eq_getElem_data]; simp
        rw [List.take_add_one, List.getElem?_eq_getElem (by omega), e2]; rfl
      have hcl := c.toNat_lt
      by_cases h39 : c.toNat = 39
      · go_wp2_with (go_at_call 77; refine (put_string w.heap.size w.heap.size _ ⟨#[39, 39]⟩ _ (.inr hB) (by rw [Lib.byteCells_length, List.length_cons]; show _ + 1 + 2 ≤ _; omega) (by omega)).mono ?_)
        rintro e W2 ⟨rfl, h2, b2⟩
        go_wp2
        go_roundw
        case rel =>
          refine ⟨k + 1, by omega, by simp, ?_, hb.trans b2, ?_⟩
          · have e : [c].flatMap escC = [39, 39] := by simp [escC, h39]
            rw [htk, List.flatMap_append, e, ← List.cons_append, cells_app]
            exact h2
          · rw [htk, List.flatMap_append, List.length_append]
            have : [c].flatMap escC = [39, 39] := by simp [escC, h39]
            rw [this]; show _ + 2 ≤ _; omega
        case measure => simp only [Lib.intOf]; omega
      · by_cases q1 : c.toNat < 32
        · skip
          go_wp2_with (go_at_call 76; refine (put_byte w.heap.size w.heap.size _ 92 _ (.inr hB) (by rw [Lib.byteCells_length, List.length_cons]; omega) (by omega)).mono ?_)
          first | rintro e W2 rfl h2 b2 | rintro e W2 ⟨rfl, h2, b2⟩
          have hb2 := b2.size
          go_wp2_with (go_at_call 76; refine (put_byte w.heap.size w.heap.size _ _ _ (.inr h2) (by rw [List.length_append, Lib.byteCells_length, List.length_cons, List.length_singleton]; omega) (by omega)).mono ?_)
          first | rintro e W3 rfl h3 b3 | rintro e W3 ⟨rfl, h3, b3⟩
          have hb3 := b3.size
          go_wp2_with (go_at_call 76; refine (put_byte w.heap.size w.heap.size _ _ _ (.inr h3) (by rw [List.length_append, List.length_append, Lib.byteCells_length, List.length_cons, List.length_singleton, List.length_singleton]; omega) (by omega)).mono ?_)
          first | rintro e W4 rfl h4 b4 | rintro e W4 ⟨rfl, h4, b4⟩
          rw [hexL, hexL] at h4
          go_wp2
          go_roundw
          case rel =>
            have e : [c].flatMap escC = [92, hexC (c.toNat / 16), hexC (c.toNat % 16)] := by
              simp only [List.flatMap_cons, List.flatMap_nil, List.append_nil, escC]
              rw [if_neg h39, if_pos (by omega)]
            refine ⟨k + 1, by omega, by simp, ?_, ((hb.trans b2).trans b3).trans b4, ?_⟩
            · rw [htk, List.flatMap_append, e, ← List.cons_append, cells_app]
              simpa [Lib.byteCells] using h4
            · rw [htk, List.flatMap_append, List.length_append, e]; show _ + 3 ≤ _; omega
          case measure => simp only [Lib.intOf]; omega
        · by_cases q2 : 126 < c.toNat
          · skip
            go_wp2_with (go_at_call 76; refine (put_byte w.heap.size w.heap.size _ 92 _ (.inr hB) (by rw [Lib.byteCells_length, List.length_cons]; omega) (by omega)).mono ?_)
            first | rintro e W2 rfl h2 b2 | rintro e W2 ⟨rfl, h2, b2⟩
            have hb2 := b2.size
            go_wp2_with (go_at_call 76; refine (put_byte w.heap.size w.heap.size _ _ _ (.inr h2) (by rw [List.length_append, Lib.byteCells_length, List.length_cons, List.length_singleton]; omega) (by omega)).mono ?_)
            first | rintro e W3 rfl h3 b3 | rintro e W3 ⟨rfl, h3, b3⟩
            have hb3 := b3.size
            go_wp2_with (go_at_call 76; refine (put_byte w.heap.size w.heap.size _ _ _ (.inr h3) (by rw [List.length_append, List.length_append, Lib.byteCells_length, List.length_cons, List.length_singleton, List.length_singleton]; omega) (by omega)).mono ?_)
            first | rintro e W4 rfl h4 b4 | rintro e W4 ⟨rfl, h4, b4⟩
            rw [hexL, hexL] at h4
            go_wp2
            go_roundw
            case rel =>
              have e : [c].flatMap escC = [92, hexC (c.toNat / 16), hexC (c.toNat % 16)] := by
                simp only [List.flatMap_cons, List.flatMap_nil, List.append_nil, escC]
                rw [if_neg h39, if_pos (by omega)]
              refine ⟨k + 1, by omega, by simp, ?_, ((hb.trans b2).trans b3).trans b4, ?_⟩
              · rw [htk, List.flatMap_append, e, ← List.cons_append, cells_app]
                simpa [Lib.byteCells] using h4
              · rw [htk, List.flatMap_append, List.length_append, e]; show _ + 3 ≤ _; omega
            case measure => simp only [Lib.intOf]; omega
          · by_cases q3 : c.toNat = 92
            · skip
              go_wp2_with (go_at_call 76; refine (put_byte w.heap.size w.heap.size _ 92 _ (.inr hB) (by rw [Lib.byteCells_length, List.length_cons]; omega) (by omega)).mono ?_)
              first | rintro e W2 rfl h2 b2 | rintro e W2 ⟨rfl, h2, b2⟩
              have hb2 := b2.size
              go_wp2_with (go_at_call 76; refine (put_byte w.heap.size w.heap.size _ _ _ (.inr h2) (by rw [List.length_append, Lib.byteCells_length, List.length_cons, List.length_singleton]; omega) (by omega)).mono ?_)
              first | rintro e W3 rfl h3 b3 | rintro e W3 ⟨rfl, h3, b3⟩
              have hb3 := b3.size
              go_wp2_with (go_at_call 76; refine (put_byte w.heap.size w.heap.size _ _ _ (.inr h3) (by rw [List.length_append, List.length_append, Lib.byteCells_length, List.length_cons, List.length_singleton, List.length_singleton]; omega) (by omega)).mono ?_)
              first | rintro e W4 rfl h4 b4 | rintro e W4 ⟨rfl, h4, b4⟩
              rw [hexL, hexL] at h4
              go_wp2
              go_roundw
              case rel =>
                have e : [c].flatMap escC = [92, hexC (c.toNat / 16), hexC (c.toNat % 16)] := by
                  simp only [List.flatMap_cons, List.flatMap_nil, List.append_nil, escC]
                  rw [if_neg h39, if_pos (by omega)]
                refine ⟨k + 1, by omega, by simp, ?_, ((hb.trans b2).trans b3).trans b4, ?_⟩
                · rw [htk, List.flatMap_append, e, ← List.cons_append, cells_app]
                  simpa [Lib.byteCells, q3] using h4
                · rw [htk, List.flatMap_append, List.length_append, e]; show _ + 3 ≤ _; omega
              case measure => simp only [Lib.intOf]; omega
            · have h39' : (((c.toNat : Nat) : Int) == 39) = false := by rw [beq_eq_false_iff_ne]; omega
              have q3' : (((c.toNat : Nat) : Int) == 92) = false := by rw [beq_eq_false_iff_ne]; omega
              go_wp2_with (go_at_call 76; go_loud (refine (put_byte w.heap.size w.heap.size _ (c.toNat : Int) _ (.inr hB) (by rw [Lib.byteCells_length, List.length_cons]; omega) (by omega)).mono ?_))
              first | rintro e W2 rfl h2 b2 | rintro e W2 ⟨rfl, h2, b2⟩
              go_wp2
              go_roundw
              case rel =>
                have e : [c].flatMap escC = [c] := by
                  simp only [List.flatMap_cons, List.flatMap_nil, List.append_nil, escC]
                  rw [if_neg h39, if_neg (by omega)]
                refine ⟨k + 1, by omega, by simp, ?_, hb.trans b2, ?_⟩
                · rw [htk, List.flatMap_append, e, ← List.cons_append, cells_app]
                  simpa [Lib.byteCells] using h2
                · rw [htk, List.flatMap_append, List.length_append, e]; show _ + 1 ≤ _; omega
              case measure => simp only [Lib.intOf]; omega
    · obtain rfl : k = s.size := by omega
      go_wp2_with (go_at_call 76; refine (put_byte w.heap.size w.heap.size _ 39 _ (.inr hB) (by rw [Lib.byteCells_length, List.length_cons]; omega) (by omega)).mono ?_)
      rintro e W2 ⟨rfl, h2, b2⟩
      have hb2 := b2.size
      go_wp2_with (go_at_call 78; refine (Try.Builder_String_any w.heap.size w.heap.size (39 :: ((s.data.toList.take s.size).flatMap escC ++ [39])) _ (.inr (by simpa [Lib.byteCells] using h2)) (by omega)).mono ?_)
      rintro e W3 ⟨rfl, b3⟩
      go_wp2
      go_ret
      refine ⟨?_, (hb.trans b2).trans b3⟩
      rw [List.take_of_length_le (by simp)]; rfl
end Go.Proofs.Ytdpmojhejidhiaa.B

namespace Go.Proofs.Ytdpmojhejidhiaa.K
open Go.RowKit Go.Lib
def textS (l : List UInt8) : List UInt8 := 39 :: (l.flatMap B.escC ++ [39])
theorem call_text (l : List UInt8) (hl : l.length ≤ 1000000000) : GCall Try.prog 64 [.s l] [] (.s (textS l)) [] := by
  intro m S w vs hH hR
  simp only [Reps, Rep] at hR
  obtain ⟨v, r, rfl, h0, rfl⟩ := hR
  unfold RepD at h0
  obtain ⟨rfl, _⟩ := h0
  refine (B.lex_text (toS l) w (show l.toArray.size ≤ 1000000000 by simpa using hl)).mono ?_
  rintro e w' ⟨rfl, hb⟩
  exact ⟨_, m, S, rfl, Hold.below hH hb, by simp only [Rep]; unfold RepD; exact ⟨rfl, rfl⟩⟩
theorem setAt_same : ∀ (H : List Blk) (id : Nat) {xs : List A}, H.getD id .unborn = .box xs → setAt H id (.box xs) = H
  | [], id, xs, h => by simp at h
  | x :: l, 0, xs, h => by
    have h : x = .box xs := h
    rw [h]; rfl
  | x :: l, id + 1, xs, h => by
    show x :: setAt l id _ = _
    rw [setAt_same l id (by simpa using h)]
/-- What an operation leaves as it was, it need not be said to write. -/
theorem Osm {P : Program} {o : Oper} {st : St} {R : List Loc} {val : A} {id : Nat} {xs : List A} {bl : List (Nat × Blk)} (h : OpRun P o st R val ((id, .box xs) :: bl)) (hb : st.H.getD id .unborn = .box xs) (hR : Loc.blk id ∈ R) : OpRun P o st R val bl := by
  intro st' hl he cx m S a w hs
  have e := hl _ hR
  have e' : st'.H.getD id .unborn = .box xs := by
    have : Ct.b (st'.H.getD id .unborn) = Ct.b (st.H.getD id .unborn) := e
    rw [Ct.b.inj this, hb]
  have e2 : putB st'.H ((id, .box xs) :: bl) = putB st'.H bl := by
    show putB (setAt st'.H id (.box xs)) bl = _
    rw [setAt_same _ _ e']
  have := h st' hl he cx m S a w hs
  rw [e2] at this
  exact this
/-! ### for tight certificates (tight.py) -/
theorem br {α : Type} {c : Bool} {a b : Option α} {r : α} (hm : cond c a b = some r) : (c = true ∧ a = some r) ∨ (c = false ∧ b = some r) := by
  cases c
  · exact .inr ⟨rfl, hm⟩
  · exact .inl ⟨rfl, hm⟩
theorem bna {α β : Type} {l s : List α} {f : List α → Option β} {r : β} (h : Option.bind (app l s) f = some r) : ∃ x, x = l ++ s ∧ l.length + s.length ≤ 1000000000 ∧ f x = some r := by
  obtain ⟨x, e, h⟩ := bnd h
  obtain ⟨a, b⟩ := app_some e
  exact ⟨x, a, b, h⟩
theorem sj {α : Type} {a b : α} (h : some a = some b) : a = b := Option.some.inj h
theorem Osd {P : Program} {o : Oper} {st : St} (X Y : List UInt8) {z : List UInt8} {t u : TypeId} {x y : Operand} (ho : o.op = .binOp .add t x y u) (e : z = X ++ Y) (l : X.length + Y.length ≤ 1000000000)
    (hx : opA st x = .d (.lit (.string (toS X))) := by kernel_rfl) (hy : opA st y = .d (.lit (.string (toS Y))) := by kernel_rfl) : OpRun P o st (locsOf [x, y]) (.d (.lit (.string (toS z)))) [] := op_bin ho hx hy (fun _ => hb_sadd e l) rfl
end Go.Proofs.Ytdpmojhejidhiaa.K

namespace Go.Proofs.Ytdpmojhejidhiaa.K
open Go.RowKit Go.Lib

structure GValue where
  Kind : UInt8
  N : Int
  Bits : Int
  Text : (List UInt8)
  deriving DecidableEq, Inhabited
def enc_GValue (x : GValue) : List D := [(byteD x.Kind), (.lit (.int .i64 x.N)), (.lit (.int .u64 x.Bits)), (.lit (.string (toS x.Text)))]
structure GNode_ where
  Kind : UInt8
  Op : UInt8
  Var : (List UInt8)
  Name : (List UInt8)
  Val : GValue
  deriving DecidableEq, Inhabited
def enc_GNode_ (x : GNode_) : List D := [(byteD x.Kind), (byteD x.Op), (.lit (.string (toS x.Var))), (.lit (.string (toS x.Name))), (byteD x.Val.Kind), (.lit (.int .i64 x.Val.N)), (.lit (.int .u64 x.Val.Bits)), (.lit (.string (toS x.Val.Text)))]
theorem enc_GNode__len (x : GNode_) : (enc_GNode_ x).length = 8 := rfl
structure GNode where
  Kind : UInt8
  Kids : Int
  Lo : Int
  Hi : Int
  Var : (List UInt8)
  Type_ : (List UInt8)
  Test : (List GNode_)
  deriving DecidableEq, Inhabited
def enc_GNode (x : GNode) : List D := [(byteD x.Kind), (.lit (.int .i64 x.Kids)), (.lit (.int .i64 x.Lo)), (.lit (.int .i64 x.Hi)), (.lit (.string (toS x.Var))), (.lit (.string (toS x.Type_))), (.sl (List.length x.Test) (flatD enc_GNode_ x.Test))]
theorem enc_GNode_len (x : GNode) : (enc_GNode x).length = 7 := rfl
structure GPattern where
  Body : (List GNode)
  Within : Int
  By : (List UInt8)
  Mode : UInt8
  deriving DecidableEq, Inhabited
def enc_GPattern (x : GPattern) : List D := [(.sl (List.length x.Body) (flatD enc_GNode x.Body)), (.lit (.int .i64 x.Within)), (.lit (.string (toS x.By))), (byteD x.Mode)]
structure GArr2_GPattern where
  a0 : GPattern
  a1 : GPattern
  deriving DecidableEq, Inhabited
def enc_GArr2_GPattern (x : GArr2_GPattern) : List D := [(.sl (List.length x.a0.Body) (flatD enc_GNode x.a0.Body)), (.lit (.int .i64 x.a0.Within)), (.lit (.string (toS x.a0.By))), (byteD x.a0.Mode), (.sl (List.length x.a1.Body) (flatD enc_GNode x.a1.Body)), (.lit (.int .i64 x.a1.Within)), (.lit (.string (toS x.a1.By))), (byteD x.a1.Mode)]
structure GTchecker where
  l : (List GNode_)
  at_ : Int
  deriving DecidableEq, Inhabited
theorem elemOK_28 : ElemOK Try.prog 28 44 7 88 (.agg #[(.int .u8 0), (.int .i64 0), (.int .i64 0), (.int .i64 0), (.string ⟨#[]⟩), (.string ⟨#[]⟩), (.slice none 0 0)]) := ⟨by kernel_rfl, by kernel_rfl, by kernel_rfl, by decide, by decide⟩
theorem elemOK_42 : ElemOK Try.prog 42 75 8 80 (.agg #[(.int .u8 0), (.int .u8 0), (.string ⟨#[]⟩), (.string ⟨#[]⟩), (.int .u8 0), (.int .i64 0), (.int .u64 0), (.string ⟨#[]⟩)]) := ⟨by kernel_rfl, by kernel_rfl, by kernel_rfl, by decide, by decide⟩
end Go.Proofs.Ytdpmojhejidhiaa.K

namespace Go.Proofs.Ytdpmojhejidhiaa.K
open Go.RowKit Go.Lib

def m_w04_Small (p0 : GValue) : Option Int :=
  some (max 0 (IntKind.i64.wrap (((List.length p0.Text : Nat) : Int) - 100)))

def m_w11_Over_j4 : Option Int :=
  some 1
def m_w11_Over_l1 (p0 : (List GNode_)) : Nat → Int → Option Int
  | 0, _ => none
  | fu_1 + 1, y3_1 =>
    cond (decide (y3_1 < ((List.length p0 : Nat) : Int)))
    (Option.bind (geti p0 y3_1) fun x15_3 =>
    cond (decide ((40 : Int) < ((List.length x15_3.Var : Nat) : Int)))
    (m_w11_Over_j4 )
    (Option.bind (geti p0 y3_1) fun x23_3 =>
    cond (decide ((40 : Int) < ((List.length x23_3.Name : Nat) : Int)))
    (m_w11_Over_j4 )
    (Option.bind (geti p0 y3_1) fun x32_3 =>
    Option.bind (m_w04_Small x32_3.Val) fun r35_3 =>
    cond (decide ((0 : Int) < r35_3))
    (some 1)
    (m_w11_Over_l1 p0 fu_1 (IntKind.i64.wrap (y3_1 + 1))))))
    (some 0)
def m_w11_Over (p0 : (List GNode_)) : Option Int :=
  cond (decide ((40 : Int) < ((List.length p0 : Nat) : Int)))
  (some 1)
  (m_w11_Over_l1 p0 1152921504606846976 0)

def m_w13_Over_j4 : Option Int :=
  some 1
def m_w13_Over_l1 (p0 : GPattern) : Nat → Int → Option Int
  | 0, _ => none
  | fu_1 + 1, y3_1 =>
    cond (decide (y3_1 < ((List.length p0.Body : Nat) : Int)))
    (Option.bind (geti p0.Body y3_1) fun x24_3 =>
    cond (decide ((40 : Int) < ((List.length x24_3.Var : Nat) : Int)))
    (m_w13_Over_j4 )
    (Option.bind (geti p0.Body y3_1) fun x33_3 =>
    cond (decide ((40 : Int) < ((List.length x33_3.Type_ : Nat) : Int)))
    (m_w13_Over_j4 )
    (Option.bind (geti p0.Body y3_1) fun x43_3 =>
    Option.bind (m_w11_Over x43_3.Test) fun r46_3 =>
    cond (decide ((0 : Int) < r46_3))
    (some 1)
    (m_w13_Over_l1 p0 fu_1 (IntKind.i64.wrap (y3_1 + 1))))))
    (some 0)
def m_w13_Over (p0 : GPattern) : Option Int :=
  cond (decide ((50 : Int) < ((List.length p0.Body : Nat) : Int)))
  (some 1)
  (cond (decide ((40 : Int) < ((List.length p0.By : Nat) : Int)))
  (some 1)
  (m_w13_Over_l1 p0 1152921504606846976 0))

def m_w13_example : Option GPattern :=
  some (GPattern.mk ([(GNode.mk 1 2 0 0 ([] : List UInt8) ([] : List UInt8) ([] : List GNode_)), (GNode.mk 4 0 0 0 ([97] : List UInt8) ([116] : List UInt8) ([] : List GNode_)), (GNode.mk 3 1 1 0 ([] : List UInt8) ([] : List UInt8) ([] : List GNode_)), (GNode.mk 2 2 0 0 ([] : List UInt8) ([] : List UInt8) ([] : List GNode_)), (GNode.mk 4 0 0 0 ([98] : List UInt8) ([116] : List UInt8) ([] : List GNode_)), (GNode.mk 5 0 0 0 ([99] : List UInt8) ([117] : List UInt8) ([] : List GNode_))] : List GNode) 9 ([] : List UInt8) 1)

def m_shape_Node_list (p0 : GNode) : Option Bool :=
  cond (decide (((p0.Kind.toNat : Nat) : Int) = 1))
  (some true)
  (some (decide (((p0.Kind.toNat : Nat) : Int) = 2)))

def m_shape_Node_stands (p0 : GNode) (p1 : UInt8) : Option Bool :=
  cond (decide (((p0.Kind.toNat : Nat) : Int) < 1))
  (some false)
  (cond (decide ((5 : Int) < ((p0.Kind.toNat : Nat) : Int)))
  (some false)
  (Option.bind (m_shape_Node_list p0) fun r16_1 =>
  cond r16_1
  (some (decide (((p0.Kind.toNat : Nat) : Int) ≠ ((p1.toNat : Nat) : Int))))
  (cond (decide (((p0.Kind.toNat : Nat) : Int) ≠ 5))
  (some true)
  (some (decide (((p1.toNat : Nat) : Int) ≠ 3))))))

def m_shape_Node_often_j2 (p0 : GNode) : Option Bool :=
  cond (decide (p0.Hi = 0))
  (some true)
  (some (decide (p0.Lo ≤ p0.Hi)))
def m_shape_Node_often_j1 : Option Bool :=
  some false
def m_shape_Node_often (p0 : GNode) : Option Bool :=
  cond (decide (p0.Lo < 0))
  (m_shape_Node_often_j1 )
  (cond (decide ((8 : Int) < p0.Lo))
  (m_shape_Node_often_j1 )
  (cond (decide (p0.Hi < 0))
  (m_shape_Node_often_j1 )
  (cond (decide ((8 : Int) < p0.Hi))
  (m_shape_Node_often_j1 )
  (cond (decide (p0.Lo = 1))
  (cond (decide (p0.Hi = 1))
  (some false)
  (m_shape_Node_often_j2 p0))
  (m_shape_Node_often_j2 p0)))))

def m_schema_letter (p0 : UInt8) : Option Bool :=
  cond (decide ((97 : Int) ≤ ((p0.toNat : Nat) : Int)))
  (some (decide (((p0.toNat : Nat) : Int) ≤ 122)))
  (some false)

def m_schema_Reserved_j0 (y4_0 : Bool) : Option Bool :=
  cond y4_0
  (some true)
  (some false)
def m_schema_Reserved (p0 : (List UInt8)) : Option Bool :=
  cond (decide (p0 = ([119, 105, 116, 104, 105, 110] : List UInt8)))
  (m_schema_Reserved_j0  (decide (p0 = ([119, 105, 116, 104, 105, 110] : List UInt8))))
  (cond (decide (p0 = ([98, 121] : List UInt8)))
  (m_schema_Reserved_j0  (decide (p0 = ([98, 121] : List UInt8))))
  (cond (decide (p0 = ([97, 110, 100] : List UInt8)))
  (m_schema_Reserved_j0  (decide (p0 = ([97, 110, 100] : List UInt8))))
  (cond (decide (p0 = ([111, 114] : List UInt8)))
  (m_schema_Reserved_j0  (decide (p0 = ([111, 114] : List UInt8))))
  (cond (decide (p0 = ([110, 111, 116] : List UInt8)))
  (m_schema_Reserved_j0  (decide (p0 = ([110, 111, 116] : List UInt8))))
  (cond (decide (p0 = ([97, 110, 121] : List UInt8)))
  (m_schema_Reserved_j0  (decide (p0 = ([97, 110, 121] : List UInt8))))
  (cond (decide (p0 = ([110, 101, 120, 116] : List UInt8)))
  (m_schema_Reserved_j0  (decide (p0 = ([110, 101, 120, 116] : List UInt8))))
  (cond (decide (p0 = ([115, 116, 114, 105, 99, 116] : List UInt8)))
  (m_schema_Reserved_j0  (decide (p0 = ([115, 116, 114, 105, 99, 116] : List UInt8))))
  (cond (decide (p0 = ([116, 114, 117, 101] : List UInt8)))
  (m_schema_Reserved_j0  (decide (p0 = ([116, 114, 117, 101] : List UInt8))))
  (m_schema_Reserved_j0  (decide (p0 = ([102, 97, 108, 115, 101] : List UInt8))))))))))))

def m_schema_tail (p0 : UInt8) : Option Bool :=
  Option.bind (m_schema_letter p0) fun r4_0 =>
  cond r4_0
  (some true)
  (cond (decide ((48 : Int) ≤ ((p0.toNat : Nat) : Int)))
  (cond (decide (((p0.toNat : Nat) : Int) ≤ 57))
  (some true)
  (some (decide (((p0.toNat : Nat) : Int) = 95))))
  (some (decide (((p0.toNat : Nat) : Int) = 95))))

def m_schema_Name_j1 : Option Bool :=
  some false
def m_schema_Name_l2 (p0 : (List UInt8)) : Nat → Int → Option Bool
  | 0, _ => none
  | fu_2 + 1, y3_2 =>
    cond (decide (y3_2 < ((List.length p0 : Nat) : Int)))
    (Option.bind (geti p0 y3_2) fun x29_4 =>
    Option.bind (m_schema_tail x29_4) fun r30_4 =>
    cond (!r30_4)
    (some false)
    (m_schema_Name_l2 p0 fu_2 (IntKind.i64.wrap (y3_2 + 1))))
    (some true)
def m_schema_Name (p0 : (List UInt8)) : Option Bool :=
  cond (decide (p0 = ([] : List UInt8)))
  (m_schema_Name_j1 )
  (cond (decide ((12 : Int) < ((List.length p0 : Nat) : Int)))
  (m_schema_Name_j1 )
  (Option.bind (geti p0 0) fun x13_0 =>
  Option.bind (m_schema_letter x13_0) fun r14_0 =>
  cond (!r14_0)
  (m_schema_Name_j1 )
  (Option.bind (m_schema_Reserved p0) fun r19_0 =>
  cond r19_0
  (some false)
  (m_schema_Name_l2 p0 1152921504606846976 1))))

def m_pred_Node_stands (p0 : GNode_) (p1 : Int) : Option Bool :=
  cond (decide (p1 = 0))
  (cond (decide ((1 : Int) ≤ ((p0.Kind.toNat : Nat) : Int)))
  (some (decide (((p0.Kind.toNat : Nat) : Int) ≤ 4)))
  (some false))
  (cond (decide (p1 = 1))
  (cond (decide ((5 : Int) ≤ ((p0.Kind.toNat : Nat) : Int)))
  (some (decide (((p0.Kind.toNat : Nat) : Int) ≤ 9)))
  (some false))
  (cond (decide ((7 : Int) ≤ ((p0.Kind.toNat : Nat) : Int)))
  (some (decide (((p0.Kind.toNat : Nat) : Int) ≤ 9)))
  (some false)))

def m_compare_Sign (p0 : UInt8) : Option (List UInt8) :=
  cond (decide (((p0.toNat : Nat) : Int) = 1))
  (some ([61] : List UInt8))
  (cond (decide (((p0.toNat : Nat) : Int) = 2))
  (some ([33, 61] : List UInt8))
  (cond (decide (((p0.toNat : Nat) : Int) = 3))
  (some ([60] : List UInt8))
  (cond (decide (((p0.toNat : Nat) : Int) = 4))
  (some ([60, 61] : List UInt8))
  (cond (decide (((p0.toNat : Nat) : Int) = 5))
  (some ([62] : List UInt8))
  (cond (decide (((p0.toNat : Nat) : Int) = 6))
  (some ([62, 61] : List UInt8))
  (some ([] : List UInt8)))))))

def m_value_core (p0 : GValue) : Option Value :=
  cond (decide (((p0.Kind.toNat : Nat) : Int) = 1))
  (some (Value.iface 102 (.int .i64 p0.N)))
  (cond (decide (((p0.Kind.toNat : Nat) : Int) = 2))
  (some (Value.iface 103 (.int .i64 p0.N)))
  (cond (decide (((p0.Kind.toNat : Nat) : Int) = 3))
  (some (Value.iface 104 (.int .u64 p0.Bits)))
  (cond (decide (((p0.Kind.toNat : Nat) : Int) = 4))
  (some (Value.iface 106 (.string (toS p0.Text))))
  (some Value.nilIface))))

def m_real_of (p0 : Int) : Option Nat :=
  some (Int.toNat p0)

def m_real_Clean (p0 : Int) : Option Int :=
  Option.bind (m_real_of p0) fun r5_0 =>
  cond (fne r5_0 r5_0)
  (some 9221120237041090560)
  (some p0)

def m_value_number_whole (p0 : Int) : Option GValue :=
  some (GValue.mk 1 p0 0 ([] : List UInt8))

def m_value_flag_whole (p0 : Int) : Option GValue :=
  some (GValue.mk 2 p0 0 ([] : List UInt8))

def m_value_double_whole (p0 : Int) : Option GValue :=
  some (GValue.mk 3 0 p0 ([] : List UInt8))

def m_value_words_whole (p0 : (List UInt8)) : Option GValue :=
  some (GValue.mk 4 0 0 p0)

def m_value_Check_j11 (y46_11 : Bool) : Option Int :=
  cond y46_11
  (some 2)
  (some 0)
def m_value_Check_j9 (p0 : GValue) (r10_0 : Value) : Option Int :=
  cond (isT 102 r10_0)
  (Option.bind (inI .i64 r10_0) fun n44_10_102 =>
  Option.bind (m_value_number_whole n44_10_102) fun r44_10_102 =>
  Option.bind (some ((!(decide (((r44_10_102.Kind.toNat : Nat) : Int) = ((p0.Kind.toNat : Nat) : Int)) && (decide (r44_10_102.N = p0.N) && (decide (r44_10_102.Bits = p0.Bits) && (decide (r44_10_102.Text = p0.Text) && true))))))) fun v46_10 =>
  m_value_Check_j11  v46_10)
  (cond (isT 103 r10_0)
  (Option.bind (inI .i64 r10_0) fun n44_10_103 =>
  Option.bind (m_value_flag_whole n44_10_103) fun r44_10_103 =>
  Option.bind (some ((!(decide (((r44_10_103.Kind.toNat : Nat) : Int) = ((p0.Kind.toNat : Nat) : Int)) && (decide (r44_10_103.N = p0.N) && (decide (r44_10_103.Bits = p0.Bits) && (decide (r44_10_103.Text = p0.Text) && true))))))) fun v46_10 =>
  m_value_Check_j11  v46_10)
  (cond (isT 104 r10_0)
  (Option.bind (inI .u64 r10_0) fun n44_10_104 =>
  Option.bind (m_value_double_whole n44_10_104) fun r44_10_104 =>
  Option.bind (some ((!(decide (((r44_10_104.Kind.toNat : Nat) : Int) = ((p0.Kind.toNat : Nat) : Int)) && (decide (r44_10_104.N = p0.N) && (decide (r44_10_104.Bits = p0.Bits) && (decide (r44_10_104.Text = p0.Text) && true))))))) fun v46_10 =>
  m_value_Check_j11  v46_10)
  (cond (isT 106 r10_0)
  (Option.bind (inS r10_0) fun n44_10_106 =>
  Option.bind (m_value_words_whole n44_10_106) fun r44_10_106 =>
  Option.bind (some ((!(decide (((r44_10_106.Kind.toNat : Nat) : Int) = ((p0.Kind.toNat : Nat) : Int)) && (decide (r44_10_106.N = p0.N) && (decide (r44_10_106.Bits = p0.Bits) && (decide (r44_10_106.Text = p0.Text) && true))))))) fun v46_10 =>
  m_value_Check_j11  v46_10)
  (none))))
def m_value_Check (p0 : GValue) : Option Int :=
  Option.bind (m_value_core p0) fun r10_0 =>
  Option.bind (tasI .i64 102 r10_0) fun z12_1 =>
  cond z12_1.2
  (cond (decide (z12_1.1 < (-4611686018427387904)))
  (some 8)
  (cond (decide ((4611686018427387904 : Int) < z12_1.1))
  (some 8)
  (m_value_Check_j9 p0 r10_0)))
  (Option.bind (tasI .i64 103 r10_0) fun z21_3 =>
  cond z21_3.2
  (cond (decide (z21_3.1 ≠ 0))
  (cond (decide (z21_3.1 ≠ 1))
  (some 8)
  (m_value_Check_j9 p0 r10_0))
  (m_value_Check_j9 p0 r10_0))
  (Option.bind (tasI .u64 104 r10_0) fun z30_5 =>
  cond z30_5.2
  (Option.bind (m_real_Clean z30_5.1) fun r34_6 =>
  cond (decide (r34_6 ≠ z30_5.1))
  (some 4)
  (m_value_Check_j9 p0 r10_0))
  (Option.bind (tasS 106 r10_0) fun z37_7 =>
  cond z37_7.2
  (cond (decide ((24 : Int) < ((List.length z37_7.1 : Nat) : Int)))
  (some 5)
  (m_value_Check_j9 p0 r10_0))
  (some 11))))

def m_pred_Node_lacks (p0 : GNode_) : Option Bool :=
  cond (decide (((p0.Kind.toNat : Nat) : Int) = 4))
  (Option.bind (m_compare_Sign p0.Op) fun r9_0 =>
  some (decide (r9_0 = ([] : List UInt8))))
  (cond (decide (((p0.Kind.toNat : Nat) : Int) = 7))
  (Option.bind (m_schema_Name p0.Name) fun r15_1 =>
  some (!r15_1))
  (cond (decide (((p0.Kind.toNat : Nat) : Int) = 8))
  (Option.bind (m_schema_Name p0.Name) fun r21_2 =>
  cond (!r21_2)
  (some true)
  (Option.bind (m_schema_Name p0.Var) fun r26_2 =>
  some (!r26_2)))
  (cond (decide (((p0.Kind.toNat : Nat) : Int) = 9))
  (Option.bind (m_value_Check p0.Val) fun r33_3 =>
  some (decide (r33_3 ≠ 0)))
  (some false))))

def m_pred_is__pred_Node_lacks (p0 : GNode_) (p2 : Int) : Option Int :=
  Option.bind (m_pred_Node_lacks p0) fun r9_0 =>
  cond r9_0
  (some p2)
  (some 0)

def m_pred_Node_more (p0 : GNode_) : Option Bool :=
  cond (decide (((p0.Kind.toNat : Nat) : Int) = 4))
  (Option.bind (some ((!(decide (((p0.Kind.toNat : Nat) : Int) = ((p0.Kind.toNat : Nat) : Int)) && (decide (((p0.Op.toNat : Nat) : Int) = ((p0.Op.toNat : Nat) : Int)) && (decide (([] : List UInt8) = p0.Var) && (decide (([] : List UInt8) = p0.Name) && ((decide (0 = ((p0.Val.Kind.toNat : Nat) : Int)) && (decide (0 = p0.Val.N) && (decide (0 = p0.Val.Bits) && (decide (([] : List UInt8) = p0.Val.Text) && true)))) && true)))))))) fun v34_0 =>
  some v34_0)
  (cond (decide (((p0.Kind.toNat : Nat) : Int) = 7))
  (Option.bind (some ((!(decide (((p0.Kind.toNat : Nat) : Int) = ((p0.Kind.toNat : Nat) : Int)) && (decide (0 = ((p0.Op.toNat : Nat) : Int)) && (decide (([] : List UInt8) = p0.Var) && (decide (p0.Name = p0.Name) && ((decide (0 = ((p0.Val.Kind.toNat : Nat) : Int)) && (decide (0 = p0.Val.N) && (decide (0 = p0.Val.Bits) && (decide (([] : List UInt8) = p0.Val.Text) && true)))) && true)))))))) fun v34_1 =>
  some v34_1)
  (cond (decide (((p0.Kind.toNat : Nat) : Int) = 8))
  (Option.bind (some ((!(decide (((p0.Kind.toNat : Nat) : Int) = ((p0.Kind.toNat : Nat) : Int)) && (decide (0 = ((p0.Op.toNat : Nat) : Int)) && (decide (p0.Var = p0.Var) && (decide (p0.Name = p0.Name) && ((decide (0 = ((p0.Val.Kind.toNat : Nat) : Int)) && (decide (0 = p0.Val.N) && (decide (0 = p0.Val.Bits) && (decide (([] : List UInt8) = p0.Val.Text) && true)))) && true)))))))) fun v34_2 =>
  some v34_2)
  (cond (decide (((p0.Kind.toNat : Nat) : Int) = 9))
  (Option.bind (some ((!(decide (((p0.Kind.toNat : Nat) : Int) = ((p0.Kind.toNat : Nat) : Int)) && (decide (0 = ((p0.Op.toNat : Nat) : Int)) && (decide (([] : List UInt8) = p0.Var) && (decide (([] : List UInt8) = p0.Name) && ((decide (((p0.Val.Kind.toNat : Nat) : Int) = ((p0.Val.Kind.toNat : Nat) : Int)) && (decide (p0.Val.N = p0.Val.N) && (decide (p0.Val.Bits = p0.Val.Bits) && (decide (p0.Val.Text = p0.Val.Text) && true)))) && true)))))))) fun v34_3 =>
  some v34_3)
  (Option.bind (some ((!(decide (((p0.Kind.toNat : Nat) : Int) = ((p0.Kind.toNat : Nat) : Int)) && (decide (0 = ((p0.Op.toNat : Nat) : Int)) && (decide (([] : List UInt8) = p0.Var) && (decide (([] : List UInt8) = p0.Name) && ((decide (0 = ((p0.Val.Kind.toNat : Nat) : Int)) && (decide (0 = p0.Val.N) && (decide (0 = p0.Val.Bits) && (decide (([] : List UInt8) = p0.Val.Text) && true)))) && true)))))))) fun v34_4 =>
  some v34_4))))

def m_pred_is__pred_Node_more (p0 : GNode_) (p2 : Int) : Option Int :=
  Option.bind (m_pred_Node_more p0) fun r9_0 =>
  cond r9_0
  (some p2)
  (some 0)

def m_pred_Kids_j0 (p0 : UInt8) (y4_0 : Bool) : Option Int :=
  cond y4_0
  (some 2)
  (cond (decide (((p0.toNat : Nat) : Int) = 3))
  (some 1)
  (some 0))
def m_pred_Kids (p0 : UInt8) : Option Int :=
  cond (decide (((p0.toNat : Nat) : Int) = 1))
  (m_pred_Kids_j0 p0 (decide (((p0.toNat : Nat) : Int) = 1)))
  (cond (decide (((p0.toNat : Nat) : Int) = 2))
  (m_pred_Kids_j0 p0 (decide (((p0.toNat : Nat) : Int) = 2)))
  (cond (decide (((p0.toNat : Nat) : Int) = 4))
  (m_pred_Kids_j0 p0 (decide (((p0.toNat : Nat) : Int) = 4)))
  (cond (decide (((p0.toNat : Nat) : Int) = 5))
  (m_pred_Kids_j0 p0 (decide (((p0.toNat : Nat) : Int) = 5)))
  (m_pred_Kids_j0 p0 (decide (((p0.toNat : Nat) : Int) = 6))))))

def m_pred_Node_kid_j0 (y9_0 : Bool) : Option Int :=
  cond y9_0
  (some 1)
  (some 2)
def m_pred_Node_kid (p0 : GNode_) (p1 : Int) : Option Int :=
  cond (decide (((p0.Kind.toNat : Nat) : Int) ≤ 3))
  (some 0)
  (cond (decide (((p0.Kind.toNat : Nat) : Int) = 4))
  (m_pred_Node_kid_j0  (decide (((p0.Kind.toNat : Nat) : Int) = 4)))
  (m_pred_Node_kid_j0  (decide (p1 = 0))))

def m_pred_checker_tree_l6 (p2 : Int) (r57_5 : Int) (x30_1 : GNode_) (k_rec : GTchecker → Int → Int → Option (Int × GTchecker)) : Nat → GTchecker → Int → Option (Int × GTchecker)
  | 0, _, _ => none
  | fu_6 + 1, y0_d_6, y58_6 =>
    cond (decide (y58_6 < r57_5))
    (Option.bind (m_pred_Node_kid x30_1 y58_6) fun r64_7 =>
    Option.bind (k_rec y0_d_6 r64_7 (IntKind.i64.wrap (p2 + 1))) fun r67_7 =>
    cond (decide (r67_7.1 ≠ 0))
    (some (r67_7.1, r67_7.2))
    (m_pred_checker_tree_l6 p2 r57_5 x30_1 k_rec fu_6 r67_7.2 (IntKind.i64.wrap (y58_6 + 1))))
    (some (0, y0_d_6))
def m_pred_checker_tree : Nat → GTchecker → Int → Int → Option (Int × GTchecker)
  | 0, _, _, _ => none
  | fuR + 1, p0, p1, p2 =>
    cond (decide (((List.length p0.l : Nat) : Int) ≤ p0.at_))
    (some (3, p0))
    (Option.bind (geti p0.l p0.at_) fun x30_1 =>
    cond (decide ((16 : Int) ≤ p2))
    (some (15, p0))
    (Option.bind (m_pred_Node_stands x30_1 p1) fun r36_2 =>
    cond (!r36_2)
    (some (11, p0))
    (Option.bind (m_pred_is__pred_Node_lacks x30_1 4) fun r39_3 =>
    cond (decide (r39_3 ≠ 0))
    (some (r39_3, p0))
    (Option.bind (m_pred_is__pred_Node_more x30_1 2) fun r44_4 =>
    cond (decide (r44_4 ≠ 0))
    (some (r44_4, p0))
    (Option.bind (m_pred_Kids x30_1.Kind) fun r57_5 =>
    m_pred_checker_tree_l6 p2 r57_5 x30_1 (fun p0 p1 p2 => m_pred_checker_tree fuR p0 p1 p2) 1152921504606846976 (GTchecker.mk p0.l (IntKind.i64.wrap (p0.at_ + 1))) 0)))))

def m_pred_Check (p0 : (List GNode_)) : Option Int :=
  cond (decide ((30 : Int) < ((List.length p0 : Nat) : Int)))
  (some 5)
  (cond (decide (((List.length p0 : Nat) : Int) = 0))
  (some 0)
  (Option.bind (m_pred_checker_tree 1152921504606846976 (GTchecker.mk p0 0) 0 0) fun r15_2 =>
  cond (decide (r15_2.1 ≠ 0))
  (some r15_2.1)
  (cond (decide (r15_2.2.at_ < ((List.length p0 : Nat) : Int)))
  (some 5)
  (some 0))))

def m_shape_Node_lacks (p0 : GNode) : Option Bool :=
  Option.bind (m_shape_Node_list p0) fun r5_0 =>
  cond r5_0
  (cond (decide (p0.Kids < 2))
  (some true)
  (some (decide ((40 : Int) < p0.Kids))))
  (cond (decide (((p0.Kind.toNat : Nat) : Int) = 3))
  (cond (decide (p0.Kids ≠ 1))
  (some true)
  (Option.bind (m_shape_Node_often p0) fun r23_2 =>
  some (!r23_2)))
  (Option.bind (m_schema_Name p0.Var) fun r28_3 =>
  cond (!r28_3)
  (some true)
  (Option.bind (m_schema_Name p0.Type_) fun r33_3 =>
  cond (!r33_3)
  (some true)
  (Option.bind (m_pred_Check p0.Test) fun r39_3 =>
  some (decide (r39_3 ≠ 0))))))

def m_shape_Node_leaf (p0 : GNode) : Option Bool :=
  cond (decide (((p0.Kind.toNat : Nat) : Int) = 4))
  (some true)
  (some (decide (((p0.Kind.toNat : Nat) : Int) = 5)))

def m_shape_Node_more_j2 (p0 : GNode) : Option Bool :=
  Option.bind (m_shape_Node_leaf p0) fun r28_3 =>
  cond r28_3
  (some true)
  (some true)
def m_shape_Node_more_j7 (p0 : GNode) : Option Bool :=
  Option.bind (m_shape_Node_leaf p0) fun r28_8 =>
  cond r28_8
  (cond (decide (p0.Hi ≠ 0))
  (some true)
  (some (decide (p0.Kids ≠ 0))))
  (some true)
def m_shape_Node_more (p0 : GNode) : Option Bool :=
  cond (decide (p0.Lo ≠ 0))
  (cond (decide (p0.Var ≠ ([] : List UInt8)))
  (m_shape_Node_more_j2 p0)
  (cond (decide (p0.Type_ ≠ ([] : List UInt8)))
  (m_shape_Node_more_j2 p0)
  (Option.bind (m_shape_Node_leaf p0) fun r28_4 =>
  cond r28_4
  (some true)
  (cond (decide ((0 : Int) < ((List.length p0.Test : Nat) : Int)))
  (some true)
  (some (decide (((p0.Kind.toNat : Nat) : Int) ≠ 3)))))))
  (cond (decide (p0.Var ≠ ([] : List UInt8)))
  (m_shape_Node_more_j7 p0)
  (cond (decide (p0.Type_ ≠ ([] : List UInt8)))
  (m_shape_Node_more_j7 p0)
  (Option.bind (m_shape_Node_leaf p0) fun r28_10 =>
  cond r28_10
  (cond (decide (p0.Hi ≠ 0))
  (some true)
  (some (decide (p0.Kids ≠ 0))))
  (cond (decide ((0 : Int) < ((List.length p0.Test : Nat) : Int)))
  (some true)
  (cond (decide (p0.Hi ≠ 0))
  (some (decide (((p0.Kind.toNat : Nat) : Int) ≠ 3)))
  (some false))))))

def m_shape_Node_kids (p0 : GNode) : Option Int :=
  Option.bind (m_shape_Node_list p0) fun r5_0 =>
  cond r5_0
  (some (max 0 (min p0.Kids 40)))
  (cond (decide (((p0.Kind.toNat : Nat) : Int) = 3))
  (some 1)
  (some 0))

def m_shape_tree_l6 (p2 : Int) (r42_5 : Int) (x37_4 : GNode) (k_rec : (List GNode) → UInt8 → Int → Option ((List GNode) × Int)) : Nat → (List GNode) → Int → Option ((List GNode) × Int)
  | 0, _, _ => none
  | fu_6 + 1, y9_6, y43_6 =>
    cond (decide (y43_6 < r42_5))
    (Option.bind (k_rec y9_6 x37_4.Kind (IntKind.i64.wrap (p2 + 1))) fun r51_7 =>
    cond (decide (r51_7.2 ≠ 0))
    (some (([] : List GNode), r51_7.2))
    (m_shape_tree_l6 p2 r42_5 x37_4 k_rec fu_6 r51_7.1 (IntKind.i64.wrap (y43_6 + 1))))
    (some (y9_6, 0))
def m_shape_tree : Nat → (List GNode) → UInt8 → Int → Option ((List GNode) × Int)
  | 0, _, _, _ => none
  | fuR + 1, p0, p1, p2 =>
    cond (decide (((List.length p0 : Nat) : Int) = 0))
    (some (([] : List GNode), 3))
    (cond (decide ((16 : Int) ≤ p2))
    (some (([] : List GNode), 15))
    (Option.bind (geti p0 0) fun x21_1 =>
    Option.bind (m_shape_Node_stands x21_1 p1) fun r24_1 =>
    cond (!r24_1)
    (some (([] : List GNode), 11))
    (Option.bind (geti p0 0) fun x28_2 =>
    Option.bind (m_shape_Node_lacks x28_2) fun r30_2 =>
    cond r30_2
    (some (([] : List GNode), 4))
    (Option.bind (geti p0 0) fun x33_3 =>
    Option.bind (m_shape_Node_more x33_3) fun r35_3 =>
    cond r35_3
    (some (([] : List GNode), 2))
    (Option.bind (geti p0 0) fun x37_4 =>
    Option.bind (cut p0 1 ((List.length p0 : Nat) : Int)) fun s40_4 =>
    Option.bind (m_shape_Node_kids x37_4) fun r42_5 =>
    m_shape_tree_l6 p2 r42_5 x37_4 (fun p0 p1 p2 => m_shape_tree fuR p0 p1 p2) 1152921504606846976 s40_4 0)))))

def m_shape_Word (p0 : UInt8) : Option (List UInt8) :=
  cond (decide (((p0.toNat : Nat) : Int) = 1))
  (some ([97, 110, 121] : List UInt8))
  (cond (decide (((p0.toNat : Nat) : Int) = 2))
  (some ([110, 101, 120, 116] : List UInt8))
  (cond (decide (((p0.toNat : Nat) : Int) = 3))
  (some ([115, 116, 114, 105, 99, 116] : List UInt8))
  (some ([] : List UInt8))))

def m_shape_Check (p0 : GPattern) : Option Int :=
  cond (decide ((40 : Int) < ((List.length p0.Body : Nat) : Int)))
  (some 5)
  (Option.bind (m_shape_tree 1152921504606846976 p0.Body 0 0) fun r12_1 =>
  cond (decide (r12_1.2 ≠ 0))
  (some r12_1.2)
  (cond (decide ((0 : Int) < ((List.length r12_1.1 : Nat) : Int)))
  (some 5)
  (cond (decide (p0.Within < 1))
  (some 8)
  (cond (decide ((1073741824 : Int) < p0.Within))
  (some 8)
  (cond (decide (p0.By ≠ ([] : List UInt8)))
  (Option.bind (m_schema_Name p0.By) fun r39_4 =>
  cond (!r39_4)
  (some 4)
  (Option.bind (m_shape_Word p0.Mode) fun r45_5 =>
  cond (decide (r45_5 = ([] : List UInt8)))
  (some 11)
  (some 0)))
  (Option.bind (m_shape_Word p0.Mode) fun r45_6 =>
  cond (decide (r45_6 = ([] : List UInt8)))
  (some 11)
  (some 0)))))))

def m_pred_bound (p0 : UInt8) : Option Int :=
  cond (decide (((p0.toNat : Nat) : Int) = 2))
  (some 1)
  (cond (decide (((p0.toNat : Nat) : Int) = 1))
  (some 2)
  (some 3))

def m_pred_printer_within (rec_m_pred_printer_tree : GTchecker → Option ((List UInt8) × GTchecker)) (p0 : GTchecker) (p1 : Int) : Option ((List UInt8) × GTchecker) :=
  Option.bind (geti p0.l p0.at_) fun x13_0 =>
  Option.bind (m_pred_bound x13_0.Kind) fun r16_0 =>
  cond (decide (r16_0 < p1))
  (Option.bind (rec_m_pred_printer_tree p0) fun r20_1 =>
  Option.bind (app ([40] : List UInt8) r20_1.1) fun t21_1 =>
  Option.bind (app t21_1 ([41] : List UInt8)) fun t22_1 =>
  some (t22_1, r20_1.2))
  (Option.bind (rec_m_pred_printer_tree p0) fun r24_2 =>
  some (r24_2.1, r24_2.2))

def m_pred_printer_two (rec_m_pred_printer_tree : GTchecker → Option ((List UInt8) × GTchecker)) (p0 : GTchecker) (p1 : (List UInt8)) (p2 : Int) (p3 : Int) : Option ((List UInt8) × GTchecker) :=
  Option.bind (m_pred_printer_within rec_m_pred_printer_tree p0 p2) fun r12_0 =>
  Option.bind (app r12_0.1 ([32] : List UInt8)) fun t14_1 =>
  Option.bind (app t14_1 p1) fun t16_1 =>
  Option.bind (app t16_1 ([32] : List UInt8)) fun t17_1 =>
  Option.bind (m_pred_printer_within rec_m_pred_printer_tree r12_0.2 p3) fun r20_1 =>
  Option.bind (app t17_1 r20_1.1) fun t21_1 =>
  some (t21_1, r20_1.2)

def m_lex_whole_j4 (y3_d_4 : List UInt8) (y4_4 : Int) : Option (List UInt8) :=
  chk (List.length y3_d_4 = 21 ∧ 0 ≤ y4_4 ∧ y4_4 < 21) (
  some (List.drop (Int.toNat y4_4) y3_d_4))
def m_lex_whole_l1 (p0 : Int) : Nat → (List UInt8) → Int → Int → Option (List UInt8)
  | 0, _, _, _ => none
  | fu_1 + 1, y3_d_1, y4_1, y5_1 =>
    chk (List.length y3_d_1 = 21) (
    Option.bind (geti y3_d_1 (IntKind.i64.wrap (y4_1 - 1))) fun x18_2 =>
    cond (decide ((IntKind.u64.wrap (Int.tdiv y5_1 10)) = 0))
    (cond (decide (p0 < 0))
    (chk (List.length (List.set y3_d_1 (Int.toNat (IntKind.i64.wrap (y4_1 - 1))) (toU8 (48 + (((toU8 (Int.tmod y5_1 10)).toNat : Nat) : Int)))) = 21) (
    Option.bind (geti (List.set y3_d_1 (Int.toNat (IntKind.i64.wrap (y4_1 - 1))) (toU8 (48 + (((toU8 (Int.tmod y5_1 10)).toNat : Nat) : Int)))) (IntKind.i64.wrap ((IntKind.i64.wrap (y4_1 - 1)) - 1))) fun x28_3 =>
    m_lex_whole_j4  (List.set (List.set y3_d_1 (Int.toNat (IntKind.i64.wrap (y4_1 - 1))) (toU8 (48 + (((toU8 (Int.tmod y5_1 10)).toNat : Nat) : Int)))) (Int.toNat (IntKind.i64.wrap ((IntKind.i64.wrap (y4_1 - 1)) - 1))) 45) (IntKind.i64.wrap ((IntKind.i64.wrap (y4_1 - 1)) - 1))))
    (m_lex_whole_j4  (List.set y3_d_1 (Int.toNat (IntKind.i64.wrap (y4_1 - 1))) (toU8 (48 + (((toU8 (Int.tmod y5_1 10)).toNat : Nat) : Int)))) (IntKind.i64.wrap (y4_1 - 1))))
    (m_lex_whole_l1 p0 fu_1 (List.set y3_d_1 (Int.toNat (IntKind.i64.wrap (y4_1 - 1))) (toU8 (48 + (((toU8 (Int.tmod y5_1 10)).toNat : Nat) : Int)))) (IntKind.i64.wrap (y4_1 - 1)) (IntKind.u64.wrap (Int.tdiv y5_1 10))))
def m_lex_whole (p0 : Int) : Option (List UInt8) :=
  m_lex_whole_l1 p0 1152921504606846976 (List.replicate 21 0 : List UInt8) 21 (IntKind.u64.wrap (max p0 (IntKind.i64.wrap (0 - p0))))

def m_lex_bits_l1 : Nat → Int → (List UInt8) → Int → Option (List UInt8)
  | 0, _, _, _ => none
  | fu_1 + 1, y0_1, y3_d_1, y4_1 =>
    cond (decide ((0 : Int) < y4_1))
    (Option.bind (geti ([48, 49, 50, 51, 52, 53, 54, 55, 56, 57, 97, 98, 99, 100, 101, 102] : List UInt8) (IntKind.u64.wrap (((BitVec.ofInt 64 y0_1 &&& BitVec.ofInt 64 15).toNat : Int)))) fun x13_2 =>
    chk (List.length y3_d_1 = 17) (
    Option.bind (geti y3_d_1 y4_1) fun x14_2 =>
    m_lex_bits_l1 fu_1 (Int.fdiv y0_1 (2 ^ 4)) (List.set y3_d_1 (Int.toNat y4_1) x13_2) (IntKind.i64.wrap (y4_1 - 1))))
    (chk (List.length y3_d_1 = 17 ∧ 0 ≤ (0 : Int) ∧ (0 : Int) < 17) (
    some (List.drop 0 y3_d_1)))
def m_lex_bits (p0 : Int) : Option (List UInt8) :=
  chk (List.length (List.replicate 17 0 : List UInt8) = 17) (
  Option.bind (geti (List.replicate 17 0 : List UInt8) 0) fun x5_0 =>
  m_lex_bits_l1  1152921504606846976 p0 (List.set (List.replicate 17 0 : List UInt8) (Int.toNat 0) 35) 16)

def m_lex_text (p0 : (List UInt8)) : Option (List UInt8) :=
  chk (List.length p0 ≤ 1000000000) (some (textS p0))

def m_lex_Literal (p0 : GValue) : Option (List UInt8) :=
  Option.bind (m_value_Check p0) fun r4_0 =>
  cond (decide (r4_0 ≠ 0))
  (some ([] : List UInt8))
  (cond (decide (((p0.Kind.toNat : Nat) : Int) = 1))
  (Option.bind (m_lex_whole p0.N) fun r12_1 =>
  some r12_1)
  (cond (decide (((p0.Kind.toNat : Nat) : Int) = 2))
  (cond (decide (p0.N = 0))
  (some ([102, 97, 108, 115, 101] : List UInt8))
  (some ([116, 114, 117, 101] : List UInt8)))
  (cond (decide (((p0.Kind.toNat : Nat) : Int) = 3))
  (Option.bind (m_lex_bits p0.Bits) fun r22_2 =>
  some r22_2)
  (Option.bind (m_lex_text p0.Text) fun r25_3 =>
  some r25_3))))

def m_pred_printer_tree : Nat → GTchecker → Option ((List UInt8) × GTchecker)
  | 0, _ => none
  | fuR + 1, p0 =>
    Option.bind (geti p0.l p0.at_) fun x12_0 =>
    cond (decide (((x12_0.Kind.toNat : Nat) : Int) = 2))
    (Option.bind (m_pred_printer_two (fun p0 => m_pred_printer_tree fuR p0) (GTchecker.mk p0.l (IntKind.i64.wrap (p0.at_ + 1))) ([111, 114] : List UInt8) 1 2) fun r26_1 =>
    some (r26_1.1, r26_1.2))
    (cond (decide (((x12_0.Kind.toNat : Nat) : Int) = 1))
    (Option.bind (m_pred_printer_two (fun p0 => m_pred_printer_tree fuR p0) (GTchecker.mk p0.l (IntKind.i64.wrap (p0.at_ + 1))) ([97, 110, 100] : List UInt8) 2 3) fun r30_2 =>
    some (r30_2.1, r30_2.2))
    (cond (decide (((x12_0.Kind.toNat : Nat) : Int) = 3))
    (Option.bind (m_pred_printer_within (fun p0 => m_pred_printer_tree fuR p0) (GTchecker.mk p0.l (IntKind.i64.wrap (p0.at_ + 1))) 3) fun r34_3 =>
    Option.bind (app ([110, 111, 116, 32] : List UInt8) r34_3.1) fun t35_3 =>
    some (t35_3, r34_3.2))
    (cond (decide (((x12_0.Kind.toNat : Nat) : Int) = 4))
    (Option.bind (m_compare_Sign x12_0.Op) fun r41_4 =>
    Option.bind (m_pred_printer_two (fun p0 => m_pred_printer_tree fuR p0) (GTchecker.mk p0.l (IntKind.i64.wrap (p0.at_ + 1))) r41_4 0 0) fun r42_4 =>
    some (r42_4.1, r42_4.2))
    (cond (decide (((x12_0.Kind.toNat : Nat) : Int) = 5))
    (Option.bind (m_pred_printer_two (fun p0 => m_pred_printer_tree fuR p0) (GTchecker.mk p0.l (IntKind.i64.wrap (p0.at_ + 1))) ([43] : List UInt8) 0 0) fun r46_5 =>
    some (r46_5.1, r46_5.2))
    (cond (decide (((x12_0.Kind.toNat : Nat) : Int) = 6))
    (Option.bind (m_pred_printer_two (fun p0 => m_pred_printer_tree fuR p0) (GTchecker.mk p0.l (IntKind.i64.wrap (p0.at_ + 1))) ([45] : List UInt8) 0 0) fun r50_6 =>
    some (r50_6.1, r50_6.2))
    (cond (decide (((x12_0.Kind.toNat : Nat) : Int) = 7))
    (some (x12_0.Name, (GTchecker.mk p0.l (IntKind.i64.wrap (p0.at_ + 1)))))
    (cond (decide (((x12_0.Kind.toNat : Nat) : Int) = 8))
    (Option.bind (app x12_0.Var ([46] : List UInt8)) fun t59_7 =>
    Option.bind (app t59_7 x12_0.Name) fun t62_7 =>
    some (t62_7, (GTchecker.mk p0.l (IntKind.i64.wrap (p0.at_ + 1)))))
    (Option.bind (m_lex_Literal x12_0.Val) fun r65_8 =>
    some (r65_8, (GTchecker.mk p0.l (IntKind.i64.wrap (p0.at_ + 1))))))))))))

def m_pred_Print (p0 : (List GNode_)) : Option (List UInt8) :=
  cond (decide (((List.length p0 : Nat) : Int) = 0))
  (some ([] : List UInt8))
  (Option.bind (m_pred_Check p0) fun r9_0 =>
  cond (decide (r9_0 ≠ 0))
  (some ([] : List UInt8))
  (Option.bind (m_pred_printer_tree 1152921504606846976 (GTchecker.mk p0 0)) fun r16_1 =>
  some r16_1.1))

def m_shape_Node_text_j2 (p0 : GNode) (y3_2 : List UInt8) : Option (List UInt8) :=
  cond (decide ((0 : Int) < ((List.length p0.Test : Nat) : Int)))
  (Option.bind (m_pred_Print p0.Test) fun r22_4 =>
  Option.bind (app ([91] : List UInt8) r22_4) fun t23_4 =>
  Option.bind (app t23_4 ([93] : List UInt8)) fun t24_4 =>
  Option.bind (app y3_2 t24_4) fun t25_4 =>
  some t25_4)
  (some y3_2)
def m_shape_Node_text (p0 : GNode) : Option (List UInt8) :=
  Option.bind (app p0.Var ([58] : List UInt8)) fun t6_0 =>
  Option.bind (app t6_0 p0.Type_) fun t9_0 =>
  cond (decide (((p0.Kind.toNat : Nat) : Int) = 5))
  (Option.bind (app ([33] : List UInt8) t9_0) fun t14_1 =>
  m_shape_Node_text_j2 p0 t14_1)
  (m_shape_Node_text_j2 p0 t9_0)

def m_value_OfInt (p0 : Int) : Option GValue :=
  some (GValue.mk 1 (max (-4611686018427387904) (min p0 4611686018427387904)) 0 ([] : List UInt8))

def m_shape_digits (p0 : Int) : Option (List UInt8) :=
  Option.bind (m_value_OfInt p0) fun r4_0 =>
  Option.bind (m_lex_Literal r4_0) fun r5_0 =>
  some r5_0

def m_shape_Node_times_j11 (p0 : GNode) : Option (List UInt8) :=
  Option.bind (m_shape_digits p0.Lo) fun r47_12 =>
  Option.bind (app ([123] : List UInt8) r47_12) fun t48_12 =>
  Option.bind (app t48_12 ([44] : List UInt8)) fun t49_12 =>
  Option.bind (m_shape_digits p0.Hi) fun r52_12 =>
  Option.bind (app t49_12 r52_12) fun t53_12 =>
  Option.bind (app t53_12 ([125] : List UInt8)) fun t54_12 =>
  some t54_12
def m_shape_Node_times (p0 : GNode) : Option (List UInt8) :=
  cond (decide (p0.Hi = 1))
  (some ([63] : List UInt8))
  (cond (decide (p0.Hi = 0))
  (cond (decide (p0.Lo = 0))
  (some ([42] : List UInt8))
  (cond (decide (p0.Hi = 0))
  (cond (decide (p0.Lo = 1))
  (some ([43] : List UInt8))
  (cond (decide (p0.Hi = 0))
  (Option.bind (m_shape_digits p0.Lo) fun r31_2 =>
  Option.bind (app ([123] : List UInt8) r31_2) fun t32_2 =>
  Option.bind (app t32_2 ([44, 125] : List UInt8)) fun t33_2 =>
  some t33_2)
  (cond (decide (p0.Hi = p0.Lo))
  (Option.bind (m_shape_digits p0.Lo) fun r42_3 =>
  Option.bind (app ([123] : List UInt8) r42_3) fun t43_3 =>
  Option.bind (app t43_3 ([125] : List UInt8)) fun t44_3 =>
  some t44_3)
  (m_shape_Node_times_j11 p0))))
  (cond (decide (p0.Hi = 0))
  (Option.bind (m_shape_digits p0.Lo) fun r31_4 =>
  Option.bind (app ([123] : List UInt8) r31_4) fun t32_4 =>
  Option.bind (app t32_4 ([44, 125] : List UInt8)) fun t33_4 =>
  some t33_4)
  (cond (decide (p0.Hi = p0.Lo))
  (Option.bind (m_shape_digits p0.Lo) fun r42_5 =>
  Option.bind (app ([123] : List UInt8) r42_5) fun t43_5 =>
  Option.bind (app t43_5 ([125] : List UInt8)) fun t44_5 =>
  some t44_5)
  (m_shape_Node_times_j11 p0)))))
  (cond (decide (p0.Hi = 0))
  (cond (decide (p0.Lo = 1))
  (some ([43] : List UInt8))
  (cond (decide (p0.Hi = 0))
  (Option.bind (m_shape_digits p0.Lo) fun r31_7 =>
  Option.bind (app ([123] : List UInt8) r31_7) fun t32_7 =>
  Option.bind (app t32_7 ([44, 125] : List UInt8)) fun t33_7 =>
  some t33_7)
  (cond (decide (p0.Hi = p0.Lo))
  (Option.bind (m_shape_digits p0.Lo) fun r42_8 =>
  Option.bind (app ([123] : List UInt8) r42_8) fun t43_8 =>
  Option.bind (app t43_8 ([125] : List UInt8)) fun t44_8 =>
  some t44_8)
  (m_shape_Node_times_j11 p0))))
  (cond (decide (p0.Hi = 0))
  (Option.bind (m_shape_digits p0.Lo) fun r31_9 =>
  Option.bind (app ([123] : List UInt8) r31_9) fun t32_9 =>
  Option.bind (app t32_9 ([44, 125] : List UInt8)) fun t33_9 =>
  some t33_9)
  (cond (decide (p0.Hi = p0.Lo))
  (Option.bind (m_shape_digits p0.Lo) fun r42_10 =>
  Option.bind (app ([123] : List UInt8) r42_10) fun t43_10 =>
  Option.bind (app t43_10 ([125] : List UInt8)) fun t44_10 =>
  some t44_10)
  (m_shape_Node_times_j11 p0)))))

def m_shape_Print_1_j9 (p0 : UInt8) (x12_0 : GNode) (y0_d_6 : GPattern) (y1_d_6 : Int) (y8_9 : List UInt8) : Option ((List UInt8) × GPattern × Int) :=
  cond (decide (((p0.toNat : Nat) : Int) = 3))
  (Option.bind (app ([40] : List UInt8) y8_9) fun t60_11 =>
  Option.bind (app t60_11 ([41] : List UInt8)) fun t61_11 =>
  some (t61_11, y0_d_6, y1_d_6))
  (cond (decide (((p0.toNat : Nat) : Int) = 1))
  (cond (decide (((x12_0.Kind.toNat : Nat) : Int) = 2))
  (Option.bind (app ([40] : List UInt8) y8_9) fun t60_12 =>
  Option.bind (app t60_12 ([41] : List UInt8)) fun t61_12 =>
  some (t61_12, y0_d_6, y1_d_6))
  (some (y8_9, y0_d_6, y1_d_6)))
  (some (y8_9, y0_d_6, y1_d_6)))
def m_shape_Print_1_l6 (p0 : UInt8) (r28_5 : Int) (x12_0 : GNode) (y7_3 : List UInt8) (k_rec : UInt8 → GPattern → Int → Option ((List UInt8) × GPattern × Int)) : Nat → GPattern → Int → (List UInt8) → Int → Option ((List UInt8) × GPattern × Int)
  | 0, _, _, _, _ => none
  | fu_6 + 1, y0_d_6, y1_d_6, y8_6, y30_6 =>
    cond (decide (y30_6 < (IntKind.i64.wrap (r28_5 - 1))))
    (Option.bind (k_rec x12_0.Kind y0_d_6 y1_d_6) fun r37_7 =>
    Option.bind (app y7_3 r37_7.1) fun t38_7 =>
    Option.bind (app y8_6 t38_7) fun t39_7 =>
    m_shape_Print_1_l6 p0 r28_5 x12_0 y7_3 k_rec fu_6 r37_7.2.1 r37_7.2.2 t39_7 (IntKind.i64.wrap (y30_6 + 1)))
    (cond (decide (((x12_0.Kind.toNat : Nat) : Int) = 3))
    (Option.bind (m_shape_Node_times x12_0) fun r46_8 =>
    Option.bind (app y8_6 r46_8) fun t47_8 =>
    m_shape_Print_1_j9 p0 x12_0 y0_d_6 y1_d_6 t47_8)
    (m_shape_Print_1_j9 p0 x12_0 y0_d_6 y1_d_6 y8_6))
def m_shape_Print_1_j3 (p0 : UInt8) (p1 : GPattern) (p2 : Int) (x12_0 : GNode) (k_rec : UInt8 → GPattern → Int → Option ((List UInt8) × GPattern × Int)) (y7_3 : List UInt8) : Option ((List UInt8) × GPattern × Int) :=
  Option.bind (k_rec x12_0.Kind p1 (IntKind.i64.wrap (p2 + 1))) fun r26_4 =>
  Option.bind (m_shape_Node_kids x12_0) fun r28_5 =>
  m_shape_Print_1_l6 p0 r28_5 x12_0 y7_3 k_rec 1152921504606846976 r26_4.2.1 r26_4.2.2 r26_4.1 0
def m_shape_Print_1 : Nat → UInt8 → GPattern → Int → Option ((List UInt8) × GPattern × Int)
  | 0, _, _, _ => none
  | fuR + 1, p0, p1, p2 =>
    Option.bind (geti p1.Body p2) fun x12_0 =>
    Option.bind (m_shape_Node_leaf x12_0) fun r17_1 =>
    cond r17_1
    (Option.bind (m_shape_Node_text x12_0) fun r19_2 =>
    some (r19_2, p1, (IntKind.i64.wrap (p2 + 1))))
    (cond (decide (((x12_0.Kind.toNat : Nat) : Int) = 2))
    (m_shape_Print_1_j3 p0 p1 p2 x12_0 (fun p0 p1 p2 => m_shape_Print_1 fuR p0 p1 p2) ([32, 124, 32] : List UInt8))
    (m_shape_Print_1_j3 p0 p1 p2 x12_0 (fun p0 p1 p2 => m_shape_Print_1 fuR p0 p1 p2) ([59, 32] : List UInt8)))

def m_shape_Print_j3 (r11_1 : ((List UInt8) × GPattern × Int)) (y5_3 : List UInt8) : Option (List UInt8) :=
  Option.bind (app y5_3 ([32] : List UInt8)) fun t26_4 =>
  Option.bind (m_shape_Word r11_1.2.1.Mode) fun r29_4 =>
  Option.bind (app t26_4 r29_4) fun t30_4 =>
  some t30_4
def m_shape_Print (p0 : GPattern) : Option (List UInt8) :=
  Option.bind (m_shape_Check p0) fun r7_0 =>
  cond (decide (r7_0 ≠ 0))
  (some ([] : List UInt8))
  (Option.bind (m_shape_Print_1 1152921504606846976 0 p0 0) fun r11_1 =>
  Option.bind (app r11_1.1 ([32, 119, 105, 116, 104, 105, 110, 32] : List UInt8)) fun t12_1 =>
  Option.bind (m_shape_digits r11_1.2.1.Within) fun r15_1 =>
  Option.bind (app t12_1 r15_1) fun t16_1 =>
  cond (decide (r11_1.2.1.By ≠ ([] : List UInt8)))
  (Option.bind (app ([32, 98, 121, 32] : List UInt8) r11_1.2.1.By) fun t23_2 =>
  Option.bind (app t16_1 t23_2) fun t24_2 =>
  m_shape_Print_j3 r11_1 t24_2)
  (m_shape_Print_j3 r11_1 t16_1))

def m_shape_Size_l2 (s18_1 : List GNode) : Nat → Int → Int → Option Int
  | 0, _, _ => none
  | fu_2 + 1, y5_2, y20_2 =>
    cond (decide (y20_2 < ((List.length s18_1 : Nat) : Int)))
    (Option.bind (geti s18_1 y20_2) fun x23_3 =>
    Option.bind (m_shape_Node_kids x23_3) fun r27_4 =>
    cond (decide ((IntKind.i64.wrap (y5_2 + (IntKind.i64.wrap (r27_4 - 1)))) = 0))
    (some (IntKind.i64.wrap (y20_2 + 1)))
    (m_shape_Size_l2 s18_1 fu_2 (IntKind.i64.wrap (y5_2 + (IntKind.i64.wrap (r27_4 - 1)))) (IntKind.i64.wrap (y20_2 + 1))))
    (some 0)
def m_shape_Size (p0 : (List GNode)) (p1 : Int) : Option Int :=
  cond (decide (p1 < 0))
  (some 0)
  (cond (decide (((List.length p0 : Nat) : Int) ≤ p1))
  (some 0)
  (Option.bind (cut p0 p1 ((List.length p0 : Nat) : Int)) fun s18_1 =>
  m_shape_Size_l2 s18_1 1152921504606846976 1 0))

def m_slices_Equal_Node_l2 (p0 : (List GNode_)) (p1 : (List GNode_)) : Nat → Int → Option Bool
  | 0, _ => none
  | fu_2 + 1, y13_2 =>
    cond (decide (y13_2 < ((List.length p0 : Nat) : Int)))
    (Option.bind (geti p0 y13_2) fun x18_3 =>
    Option.bind (geti p1 y13_2) fun x22_3 =>
    Option.bind (some ((!(decide (((x18_3.Kind.toNat : Nat) : Int) = ((x22_3.Kind.toNat : Nat) : Int)) && (decide (((x18_3.Op.toNat : Nat) : Int) = ((x22_3.Op.toNat : Nat) : Int)) && (decide (x18_3.Var = x22_3.Var) && (decide (x18_3.Name = x22_3.Name) && ((decide (((x18_3.Val.Kind.toNat : Nat) : Int) = ((x22_3.Val.Kind.toNat : Nat) : Int)) && (decide (x18_3.Val.N = x22_3.Val.N) && (decide (x18_3.Val.Bits = x22_3.Val.Bits) && (decide (x18_3.Val.Text = x22_3.Val.Text) && true)))) && true)))))))) fun v24_3 =>
    cond v24_3
    (some false)
    (m_slices_Equal_Node_l2 p0 p1 fu_2 (IntKind.i64.wrap (y13_2 + 1))))
    (some true)
def m_slices_Equal_Node (p0 : (List GNode_)) (p1 : (List GNode_)) : Option Bool :=
  cond (decide (((List.length p0 : Nat) : Int) ≠ ((List.length p1 : Nat) : Int)))
  (some false)
  (m_slices_Equal_Node_l2 p0 p1 1152921504606846976 0)

def m_pred_Same (p0 : (List GNode_)) (p1 : (List GNode_)) : Option Bool :=
  Option.bind (m_slices_Equal_Node p0 p1) fun r7_0 =>
  some r7_0

def m_shape_same_j1 : Option Bool :=
  some false
def m_shape_same (p0 : GNode) (p1 : GNode) : Option Bool :=
  cond (decide (((p0.Kind.toNat : Nat) : Int) = ((p1.Kind.toNat : Nat) : Int)))
  (cond (decide (p0.Kids = p1.Kids))
  (cond (decide (p0.Lo = p1.Lo))
  (cond (decide (p0.Hi = p1.Hi))
  (cond (decide (p0.Var = p1.Var))
  (cond (decide (p0.Type_ = p1.Type_))
  (Option.bind (m_pred_Same p0.Test p1.Test) fun r52_2 =>
  some r52_2)
  (some false))
  (some false))
  (some false))
  (m_shape_same_j1 ))
  (m_shape_same_j1 ))
  (m_shape_same_j1 )

def m_slices_EqualFunc_Nodeshape_Node_shape_Node_shape_Node__shape_same_l2 (p0 : (List GNode)) (p1 : (List GNode)) : Nat → Int → Option Bool
  | 0, _ => none
  | fu_2 + 1, y17_2 =>
    cond (decide (y17_2 < ((List.length p0 : Nat) : Int)))
    (Option.bind (geti p0 y17_2) fun x20_3 =>
    Option.bind (geti p1 y17_2) fun x24_4 =>
    Option.bind (m_shape_same x20_3 x24_4) fun r29_5 =>
    cond (!r29_5)
    (some false)
    (m_slices_EqualFunc_Nodeshape_Node_shape_Node_shape_Node__shape_same_l2 p0 p1 fu_2 (IntKind.i64.wrap (y17_2 + 1))))
    (some true)
def m_slices_EqualFunc_Nodeshape_Node_shape_Node_shape_Node__shape_same (p0 : (List GNode)) (p1 : (List GNode)) : Option Bool :=
  cond (decide (((List.length p0 : Nat) : Int) ≠ ((List.length p1 : Nat) : Int)))
  (some false)
  (m_slices_EqualFunc_Nodeshape_Node_shape_Node_shape_Node__shape_same_l2 p0 p1 1152921504606846976 0)

def m_shape_Same (p0 : GPattern) (p1 : GPattern) : Option Bool :=
  cond (decide (p0.Within = p1.Within))
  (cond (decide (p0.By = p1.By))
  (cond (decide (((p0.Mode.toNat : Nat) : Int) = ((p1.Mode.toNat : Nat) : Int)))
  (Option.bind (m_slices_EqualFunc_Nodeshape_Node_shape_Node_shape_Node__shape_same p0.Body p1.Body) fun r29_0 =>
  some r29_0)
  (some false))
  (some false))
  (some false)

def m_w13_awake : Option Bool :=
  Option.bind m_w13_example fun r4_0 =>
  Option.bind m_w13_example fun r5_0 =>
  Option.bind m_w13_example fun r6_0 =>
  Option.bind (geti r5_0.Body 2) fun x11_1 =>
  Option.bind (geti (List.set r5_0.Body (Int.toNat 2) (GNode.mk x11_1.Kind x11_1.Kids 1 x11_1.Hi x11_1.Var x11_1.Type_ x11_1.Test)) 2) fun x13_1 =>
  Option.bind (m_shape_Check r4_0) fun r17_2 =>
  cond (decide (r17_2 = 0))
  (Option.bind (m_shape_Print r4_0) fun r21_2 =>
  Option.bind (some (decide (r21_2 = ([97, 58, 116, 59, 32, 40, 98, 58, 116, 32, 124, 32, 33, 99, 58, 117, 41, 43, 32, 119, 105, 116, 104, 105, 110, 32, 57, 32, 97, 110, 121] : List UInt8)))) fun v22_2 =>
  cond v22_2
  (Option.bind (m_shape_Check (GPattern.mk (List.set (List.set r5_0.Body (Int.toNat 2) (GNode.mk x11_1.Kind x11_1.Kids 1 x11_1.Hi x11_1.Var x11_1.Type_ x11_1.Test)) (Int.toNat 2) (GNode.mk x13_1.Kind x13_1.Kids x13_1.Lo 1 x13_1.Var x13_1.Type_ x13_1.Test)) r5_0.Within r5_0.By r5_0.Mode)) fun r26_2 =>
  cond (decide (r26_2 = 4))
  (Option.bind (m_shape_Check (GPattern.mk r6_0.Body r6_0.Within r6_0.By 4)) fun r31_2 =>
  cond (decide (r31_2 = 11))
  (Option.bind (m_shape_Size r4_0.Body 2) fun r37_2 =>
  cond (decide (r37_2 = 4))
  (Option.bind (cut r4_0.Body 0 5) fun s43_2 =>
  Option.bind (m_shape_Size s43_2 0) fun r44_2 =>
  cond (decide (r44_2 = 0))
  (Option.bind m_w13_example fun r49_2 =>
  Option.bind (m_shape_Same r4_0 r49_2) fun r50_2 =>
  cond r50_2
  (Option.bind (m_shape_Same r4_0 (GPattern.mk (List.set (List.set r5_0.Body (Int.toNat 2) (GNode.mk x11_1.Kind x11_1.Kids 1 x11_1.Hi x11_1.Var x11_1.Type_ x11_1.Test)) (Int.toNat 2) (GNode.mk x13_1.Kind x13_1.Kids x13_1.Lo 1 x13_1.Var x13_1.Type_ x13_1.Test)) r5_0.Within r5_0.By r5_0.Mode)) fun r55_2 =>
  cond (!r55_2)
  (Option.bind (m_shape_Word 3) fun r59_2 =>
  cond (decide (r59_2 = ([115, 116, 114, 105, 99, 116] : List UInt8)))
  (Option.bind (m_shape_Print (GPattern.mk r6_0.Body r6_0.Within r6_0.By 4)) fun r64_2 =>
  cond (decide (r64_2 = ([] : List UInt8)))
  (some true)
  (some false))
  (some false))
  (some false))
  (some false))
  (some false))
  (some false))
  (some false))
  (some false))
  (some false))
  (some false)

def m_w11_Own_l0 (p0 : (List GNode_)) : Nat → (List GNode_) → Int → Option (List GNode_)
  | 0, _, _ => none
  | fu_0 + 1, y3_0, y4_0 =>
    cond (decide (y4_0 < ((List.length p0 : Nat) : Int)))
    (Option.bind (geti p0 y4_0) fun x14_2 =>
    Option.bind (app y3_0 ([x14_2] : List GNode_)) fun a29_3 =>
    m_w11_Own_l0 p0 fu_0 a29_3 (IntKind.i64.wrap (y4_0 + 1)))
    (some y3_0)
def m_w11_Own (p0 : (List GNode_)) : Option (List GNode_) :=
  m_w11_Own_l0 p0 1152921504606846976 ([] : List GNode_) 0

def m_w13_Own_l0 (p0 : GPattern) : Nat → (List GNode) → Int → Option GPattern
  | 0, _, _ => none
  | fu_0 + 1, y3_d_0_0, y4_0 =>
    cond (decide (y4_0 < ((List.length p0.Body : Nat) : Int)))
    (Option.bind (geti p0.Body y4_0) fun x23_2 =>
    Option.bind (m_w11_Own x23_2.Test) fun r41_3 =>
    Option.bind (app y3_d_0_0 ([(GNode.mk x23_2.Kind x23_2.Kids x23_2.Lo x23_2.Hi x23_2.Var x23_2.Type_ r41_3)] : List GNode)) fun a44_3 =>
    m_w13_Own_l0 p0 fu_0 a44_3 (IntKind.i64.wrap (y4_0 + 1)))
    (some (GPattern.mk y3_d_0_0 p0.Within p0.By p0.Mode))
def m_w13_Own (p0 : GPattern) : Option GPattern :=
  m_w13_Own_l0 p0 1152921504606846976 ([] : List GNode) 0

def m_r13_Kids (p0 : GNode) : Option Int :=
  cond (decide (((p0.Kind.toNat : Nat) : Int) = 1))
  (some (max 0 (min 40 p0.Kids)))
  (cond (decide (((p0.Kind.toNat : Nat) : Int) = 2))
  (some (max 0 (min 40 p0.Kids)))
  (cond (decide (((p0.Kind.toNat : Nat) : Int) = 3))
  (some 1)
  (some 0)))

def m_r13_Size_l1 (p0 : (List GNode)) (p1 : Int) : Nat → Int → Int → Option Int
  | 0, _, _ => none
  | fu_1 + 1, y5_1, y6_1 =>
    cond (decide ((0 : Int) < y5_1))
    (cond (decide (((List.length p0 : Nat) : Int) ≤ y6_1))
    (some 0)
    (Option.bind (geti p0 y6_1) fun x26_3 =>
    Option.bind (m_r13_Kids x26_3) fun r28_3 =>
    m_r13_Size_l1 p0 p1 fu_1 (IntKind.i64.wrap ((IntKind.i64.wrap (y5_1 - 1)) + r28_3)) (IntKind.i64.wrap (y6_1 + 1))))
    (some (IntKind.i64.wrap (y6_1 - p1)))
def m_r13_Size (p0 : (List GNode)) (p1 : Int) : Option Int :=
  cond (decide (p1 < 0))
  (some 0)
  (cond (decide (((List.length p0 : Nat) : Int) ≤ p1))
  (some 0)
  (m_r13_Size_l1 p0 p1 1152921504606846976 1 p1))

def m_r06_Reserved_l0 (p0 : (List UInt8)) : Nat → Int → Option Bool
  | 0, _ => none
  | fu_0 + 1, y4_0 =>
    Option.bind (some (((List.length ([([119, 105, 116, 104, 105, 110] : List UInt8), ([98, 121] : List UInt8), ([97, 110, 100] : List UInt8), ([111, 114] : List UInt8), ([110, 111, 116] : List UInt8), ([97, 110, 121] : List UInt8), ([110, 101, 120, 116] : List UInt8), ([115, 116, 114, 105, 99, 116] : List UInt8), ([116, 114, 117, 101] : List UInt8), ([102, 97, 108, 115, 101] : List UInt8)] : List (List UInt8)) : Nat) : Int))) fun v8_2 =>
    cond (decide (y4_0 < v8_2))
    (Option.bind (geti ([([119, 105, 116, 104, 105, 110] : List UInt8), ([98, 121] : List UInt8), ([97, 110, 100] : List UInt8), ([111, 114] : List UInt8), ([110, 111, 116] : List UInt8), ([97, 110, 121] : List UInt8), ([110, 101, 120, 116] : List UInt8), ([115, 116, 114, 105, 99, 116] : List UInt8), ([116, 114, 117, 101] : List UInt8), ([102, 97, 108, 115, 101] : List UInt8)] : List (List UInt8)) y4_0) fun x14_3 =>
    cond (decide (x14_3 = p0))
    (some true)
    (m_r06_Reserved_l0 p0 fu_0 (IntKind.i64.wrap (y4_0 + 1))))
    (some false)
def m_r06_Reserved (p0 : (List UInt8)) : Option Bool :=
  m_r06_Reserved_l0 p0 1152921504606846976 0

def m_r06_Name_j1 : Option Bool :=
  some false
def m_r06_Name_j6 (x31_4 : UInt8) (y3_2 : Int) (k_m_r06_Name_l2 : Int → Option Bool) (y5_6 : Bool) : Option Bool :=
  cond (!decide (((x31_4.toNat : Nat) : Int) ≤ 122))
  (cond (decide (y3_2 = 0))
  (some false)
  (cond (!y5_6)
  (some false)
  (k_m_r06_Name_l2 (IntKind.i64.wrap (y3_2 + 1)))))
  (k_m_r06_Name_l2 (IntKind.i64.wrap (y3_2 + 1)))
def m_r06_Name_j11 (y3_2 : Int) (k_m_r06_Name_l2 : Int → Option Bool) : Option Bool :=
  k_m_r06_Name_l2 (IntKind.i64.wrap (y3_2 + 1))
def m_r06_Name_j10 (y3_2 : Int) (k_m_r06_Name_l2 : Int → Option Bool) (y5_10 : Bool) : Option Bool :=
  cond (decide (y3_2 = 0))
  (some false)
  (cond (!y5_10)
  (some false)
  (k_m_r06_Name_l2 (IntKind.i64.wrap (y3_2 + 1))))
def m_r06_Name_l2 (p0 : (List UInt8)) : Nat → Int → Option Bool
  | 0, _ => none
  | fu_2 + 1, y3_2 =>
    cond (decide (y3_2 < ((List.length p0 : Nat) : Int)))
    (Option.bind (geti p0 y3_2) fun x26_4 =>
    cond (decide ((97 : Int) ≤ ((x26_4.toNat : Nat) : Int)))
    (Option.bind (geti p0 y3_2) fun x31_4 =>
    Option.bind (geti p0 y3_2) fun x36_5 =>
    cond (decide ((48 : Int) ≤ ((x36_5.toNat : Nat) : Int)))
    (Option.bind (geti p0 y3_2) fun x41_5 =>
    cond (decide (((x41_5.toNat : Nat) : Int) ≤ 57))
    (cond (!decide (((x31_4.toNat : Nat) : Int) ≤ 122))
    (cond (decide (y3_2 = 0))
    (some false)
    (m_r06_Name_j11 y3_2 (fun y3_2 => m_r06_Name_l2 p0 fu_2 y3_2)))
    (m_r06_Name_j11 y3_2 (fun y3_2 => m_r06_Name_l2 p0 fu_2 y3_2)))
    (Option.bind (geti p0 y3_2) fun x47_5 =>
    m_r06_Name_j6 x31_4 y3_2 (fun y3_2 => m_r06_Name_l2 p0 fu_2 y3_2) (decide (((x47_5.toNat : Nat) : Int) = 95))))
    (Option.bind (geti p0 y3_2) fun x47_5 =>
    m_r06_Name_j6 x31_4 y3_2 (fun y3_2 => m_r06_Name_l2 p0 fu_2 y3_2) (decide (((x47_5.toNat : Nat) : Int) = 95))))
    (Option.bind (geti p0 y3_2) fun x36_9 =>
    cond (decide ((48 : Int) ≤ ((x36_9.toNat : Nat) : Int)))
    (Option.bind (geti p0 y3_2) fun x41_9 =>
    cond (decide (((x41_9.toNat : Nat) : Int) ≤ 57))
    (cond (decide (y3_2 = 0))
    (some false)
    (m_r06_Name_l2 p0 fu_2 (IntKind.i64.wrap (y3_2 + 1))))
    (Option.bind (geti p0 y3_2) fun x47_9 =>
    m_r06_Name_j10 y3_2 (fun y3_2 => m_r06_Name_l2 p0 fu_2 y3_2) (decide (((x47_9.toNat : Nat) : Int) = 95))))
    (Option.bind (geti p0 y3_2) fun x47_9 =>
    m_r06_Name_j10 y3_2 (fun y3_2 => m_r06_Name_l2 p0 fu_2 y3_2) (decide (((x47_9.toNat : Nat) : Int) = 95)))))
    (some true)
def m_r06_Name (p0 : (List UInt8)) : Option Bool :=
  cond (decide (((List.length p0 : Nat) : Int) < 1))
  (m_r06_Name_j1 )
  (cond (decide ((12 : Int) < ((List.length p0 : Nat) : Int)))
  (m_r06_Name_j1 )
  (Option.bind (m_r06_Reserved p0) fun r16_0 =>
  cond r16_0
  (some false)
  (m_r06_Name_l2 p0 1152921504606846976 0)))

def m_r11_may (p0 : UInt8) (p1 : Int) : Option Bool :=
  cond (decide (p1 = 1))
  (cond (decide ((1 : Int) ≤ ((p0.toNat : Nat) : Int)))
  (some (decide (((p0.toNat : Nat) : Int) ≤ 4)))
  (some false))
  (cond (decide (p1 = 2))
  (cond (decide ((5 : Int) ≤ ((p0.toNat : Nat) : Int)))
  (some (decide (((p0.toNat : Nat) : Int) ≤ 9)))
  (some false))
  (cond (decide ((7 : Int) ≤ ((p0.toNat : Nat) : Int)))
  (some (decide (((p0.toNat : Nat) : Int) ≤ 9)))
  (some false)))

def m_r03_Exp (p0 : Int) : Option Int :=
  some (IntKind.i64.wrap (Int.tmod (IntKind.u64.wrap (Int.tdiv p0 4503599627370496)) 2048))

def m_r03_Frac (p0 : Int) : Option Int :=
  some (Int.tmod p0 4503599627370496)

def m_r03_Kind_j1 (p0 : Int) : Option UInt8 :=
  Option.bind (m_r03_Exp p0) fun r12_2 =>
  cond (decide (r12_2 = 2047))
  (some 4)
  (Option.bind (m_r03_Exp p0) fun r15_3 =>
  cond (decide (r15_3 ≠ 0))
  (some 3)
  (Option.bind (m_r03_Frac p0) fun r18_4 =>
  cond (decide (r18_4 ≠ 0))
  (some 2)
  (some 1)))
def m_r03_Kind (p0 : Int) : Option UInt8 :=
  Option.bind (m_r03_Exp p0) fun r4_0 =>
  cond (decide (r4_0 = 2047))
  (Option.bind (m_r03_Frac p0) fun r8_0 =>
  cond (decide (r8_0 ≠ 0))
  (some 5)
  (m_r03_Kind_j1 p0))
  (m_r03_Kind_j1 p0)

def m_r03_Clean (p0 : Int) : Option Int :=
  Option.bind (m_r03_Kind p0) fun r4_0 =>
  cond (decide (((r4_0.toNat : Nat) : Int) = 5))
  (some 9221120237041090560)
  (some p0)

def m_r04_Check_j11 : Option Int :=
  some 2
def m_r04_Check_j12 (p0 : GValue) : Option Int :=
  cond (decide (p0.Text ≠ ([] : List UInt8)))
  (some 2)
  (some 0)
def m_r04_Check_j13 : Option Int :=
  some 0
def m_r04_Check_j9 (p0 : GValue) : Option Int :=
  cond (decide ((2 : Int) < ((p0.Kind.toNat : Nat) : Int)))
  (cond (decide (p0.N ≠ 0))
  (m_r04_Check_j11 )
  (cond (decide (((p0.Kind.toNat : Nat) : Int) ≠ 3))
  (cond (decide (p0.Bits ≠ 0))
  (m_r04_Check_j11 )
  (cond (decide (((p0.Kind.toNat : Nat) : Int) ≠ 4))
  (m_r04_Check_j12 p0)
  (m_r04_Check_j13 )))
  (cond (decide (((p0.Kind.toNat : Nat) : Int) ≠ 4))
  (m_r04_Check_j12 p0)
  (m_r04_Check_j13 ))))
  (cond (decide (((p0.Kind.toNat : Nat) : Int) ≠ 3))
  (cond (decide (p0.Bits ≠ 0))
  (m_r04_Check_j11 )
  (cond (decide (((p0.Kind.toNat : Nat) : Int) ≠ 4))
  (m_r04_Check_j12 p0)
  (m_r04_Check_j13 )))
  (cond (decide (((p0.Kind.toNat : Nat) : Int) ≠ 4))
  (m_r04_Check_j12 p0)
  (m_r04_Check_j13 )))
def m_r04_Check_j7 (p0 : GValue) : Option Int :=
  cond (decide (((p0.Kind.toNat : Nat) : Int) = 4))
  (cond (decide ((24 : Int) < ((List.length p0.Text : Nat) : Int)))
  (some 5)
  (m_r04_Check_j9 p0))
  (m_r04_Check_j9 p0)
def m_r04_Check_j5 (p0 : GValue) : Option Int :=
  cond (decide (((p0.Kind.toNat : Nat) : Int) = 3))
  (Option.bind (m_r03_Clean p0.Bits) fun r45_6 =>
  cond (decide (r45_6 ≠ p0.Bits))
  (some 4)
  (m_r04_Check_j7 p0))
  (m_r04_Check_j7 p0)
def m_r04_Check_j2 : Option Int :=
  some 8
def m_r04_Check_j3 (p0 : GValue) : Option Int :=
  cond (decide ((1 : Int) < p0.N))
  (some 8)
  (m_r04_Check_j5 p0)
def m_r04_Check_j4 (p0 : GValue) : Option Int :=
  m_r04_Check_j5 p0
def m_r04_Check (p0 : GValue) : Option Int :=
  cond (decide (((p0.Kind.toNat : Nat) : Int) < 1))
  (some 11)
  (cond (decide ((4 : Int) < ((p0.Kind.toNat : Nat) : Int)))
  (some 11)
  (cond (decide (((p0.Kind.toNat : Nat) : Int) = 1))
  (cond (decide (p0.N < (-4611686018427387904)))
  (m_r04_Check_j2 )
  (cond (decide ((4611686018427387904 : Int) < p0.N))
  (m_r04_Check_j2 )
  (cond (decide (((p0.Kind.toNat : Nat) : Int) = 2))
  (cond (decide (p0.N < 0))
  (m_r04_Check_j2 )
  (m_r04_Check_j3 p0))
  (m_r04_Check_j4 p0))))
  (cond (decide (((p0.Kind.toNat : Nat) : Int) = 2))
  (cond (decide (p0.N < 0))
  (m_r04_Check_j2 )
  (m_r04_Check_j3 p0))
  (m_r04_Check_j4 p0))))

def m_r11_needs_j1 : Option Int :=
  some 4
def m_r11_needs_j5 : Option Int :=
  some 2
def m_r11_needs_j6 (y101_6 : Bool) : Option Int :=
  cond y101_6
  (some 2)
  (some 0)
def m_r11_needs_j7 : Option Int :=
  some 0
def m_r11_needs_j2 (p0 : GNode_) (y4_2 : Bool) : Option Int :=
  cond y4_2
  (some 4)
  (cond (decide (((p0.Kind.toNat : Nat) : Int) ≠ 4))
  (cond (decide (((p0.Op.toNat : Nat) : Int) ≠ 0))
  (m_r11_needs_j5 )
  (cond (decide (((p0.Kind.toNat : Nat) : Int) ≠ 7))
  (cond (decide (((p0.Kind.toNat : Nat) : Int) ≠ 8))
  (cond (decide (p0.Name ≠ ([] : List UInt8)))
  (m_r11_needs_j5 )
  (cond (decide (((p0.Kind.toNat : Nat) : Int) ≠ 8))
  (cond (decide (p0.Var ≠ ([] : List UInt8)))
  (m_r11_needs_j5 )
  (cond (decide (((p0.Kind.toNat : Nat) : Int) ≠ 9))
  (Option.bind (some ((!(decide (((p0.Val.Kind.toNat : Nat) : Int) = 0) && (decide (p0.Val.N = 0) && (decide (p0.Val.Bits = 0) && (decide (p0.Val.Text = ([] : List UInt8)) && true))))))) fun v99_4 =>
  m_r11_needs_j6  v99_4)
  (m_r11_needs_j7 )))
  (cond (decide (((p0.Kind.toNat : Nat) : Int) ≠ 9))
  (Option.bind (some ((!(decide (((p0.Val.Kind.toNat : Nat) : Int) = 0) && (decide (p0.Val.N = 0) && (decide (p0.Val.Bits = 0) && (decide (p0.Val.Text = ([] : List UInt8)) && true))))))) fun v99_4 =>
  m_r11_needs_j6  v99_4)
  (m_r11_needs_j7 ))))
  (cond (decide (((p0.Kind.toNat : Nat) : Int) ≠ 8))
  (cond (decide (p0.Var ≠ ([] : List UInt8)))
  (m_r11_needs_j5 )
  (cond (decide (((p0.Kind.toNat : Nat) : Int) ≠ 9))
  (Option.bind (some ((!(decide (((p0.Val.Kind.toNat : Nat) : Int) = 0) && (decide (p0.Val.N = 0) && (decide (p0.Val.Bits = 0) && (decide (p0.Val.Text = ([] : List UInt8)) && true))))))) fun v99_4 =>
  m_r11_needs_j6  v99_4)
  (m_r11_needs_j7 )))
  (cond (decide (((p0.Kind.toNat : Nat) : Int) ≠ 9))
  (Option.bind (some ((!(decide (((p0.Val.Kind.toNat : Nat) : Int) = 0) && (decide (p0.Val.N = 0) && (decide (p0.Val.Bits = 0) && (decide (p0.Val.Text = ([] : List UInt8)) && true))))))) fun v99_4 =>
  m_r11_needs_j6  v99_4)
  (m_r11_needs_j7 ))))
  (cond (decide (((p0.Kind.toNat : Nat) : Int) ≠ 8))
  (cond (decide (p0.Var ≠ ([] : List UInt8)))
  (m_r11_needs_j5 )
  (cond (decide (((p0.Kind.toNat : Nat) : Int) ≠ 9))
  (Option.bind (some ((!(decide (((p0.Val.Kind.toNat : Nat) : Int) = 0) && (decide (p0.Val.N = 0) && (decide (p0.Val.Bits = 0) && (decide (p0.Val.Text = ([] : List UInt8)) && true))))))) fun v99_4 =>
  m_r11_needs_j6  v99_4)
  (m_r11_needs_j7 )))
  (cond (decide (((p0.Kind.toNat : Nat) : Int) ≠ 9))
  (Option.bind (some ((!(decide (((p0.Val.Kind.toNat : Nat) : Int) = 0) && (decide (p0.Val.N = 0) && (decide (p0.Val.Bits = 0) && (decide (p0.Val.Text = ([] : List UInt8)) && true))))))) fun v99_4 =>
  m_r11_needs_j6  v99_4)
  (m_r11_needs_j7 )))))
  (cond (decide (((p0.Kind.toNat : Nat) : Int) ≠ 7))
  (cond (decide (((p0.Kind.toNat : Nat) : Int) ≠ 8))
  (cond (decide (p0.Name ≠ ([] : List UInt8)))
  (m_r11_needs_j5 )
  (cond (decide (((p0.Kind.toNat : Nat) : Int) ≠ 8))
  (cond (decide (p0.Var ≠ ([] : List UInt8)))
  (m_r11_needs_j5 )
  (cond (decide (((p0.Kind.toNat : Nat) : Int) ≠ 9))
  (Option.bind (some ((!(decide (((p0.Val.Kind.toNat : Nat) : Int) = 0) && (decide (p0.Val.N = 0) && (decide (p0.Val.Bits = 0) && (decide (p0.Val.Text = ([] : List UInt8)) && true))))))) fun v99_4 =>
  m_r11_needs_j6  v99_4)
  (m_r11_needs_j7 )))
  (cond (decide (((p0.Kind.toNat : Nat) : Int) ≠ 9))
  (Option.bind (some ((!(decide (((p0.Val.Kind.toNat : Nat) : Int) = 0) && (decide (p0.Val.N = 0) && (decide (p0.Val.Bits = 0) && (decide (p0.Val.Text = ([] : List UInt8)) && true))))))) fun v99_4 =>
  m_r11_needs_j6  v99_4)
  (m_r11_needs_j7 ))))
  (cond (decide (((p0.Kind.toNat : Nat) : Int) ≠ 8))
  (cond (decide (p0.Var ≠ ([] : List UInt8)))
  (m_r11_needs_j5 )
  (cond (decide (((p0.Kind.toNat : Nat) : Int) ≠ 9))
  (Option.bind (some ((!(decide (((p0.Val.Kind.toNat : Nat) : Int) = 0) && (decide (p0.Val.N = 0) && (decide (p0.Val.Bits = 0) && (decide (p0.Val.Text = ([] : List UInt8)) && true))))))) fun v99_4 =>
  m_r11_needs_j6  v99_4)
  (m_r11_needs_j7 )))
  (cond (decide (((p0.Kind.toNat : Nat) : Int) ≠ 9))
  (Option.bind (some ((!(decide (((p0.Val.Kind.toNat : Nat) : Int) = 0) && (decide (p0.Val.N = 0) && (decide (p0.Val.Bits = 0) && (decide (p0.Val.Text = ([] : List UInt8)) && true))))))) fun v99_4 =>
  m_r11_needs_j6  v99_4)
  (m_r11_needs_j7 ))))
  (cond (decide (((p0.Kind.toNat : Nat) : Int) ≠ 8))
  (cond (decide (p0.Var ≠ ([] : List UInt8)))
  (m_r11_needs_j5 )
  (cond (decide (((p0.Kind.toNat : Nat) : Int) ≠ 9))
  (Option.bind (some ((!(decide (((p0.Val.Kind.toNat : Nat) : Int) = 0) && (decide (p0.Val.N = 0) && (decide (p0.Val.Bits = 0) && (decide (p0.Val.Text = ([] : List UInt8)) && true))))))) fun v99_4 =>
  m_r11_needs_j6  v99_4)
  (m_r11_needs_j7 )))
  (cond (decide (((p0.Kind.toNat : Nat) : Int) ≠ 9))
  (Option.bind (some ((!(decide (((p0.Val.Kind.toNat : Nat) : Int) = 0) && (decide (p0.Val.N = 0) && (decide (p0.Val.Bits = 0) && (decide (p0.Val.Text = ([] : List UInt8)) && true))))))) fun v99_4 =>
  m_r11_needs_j6  v99_4)
  (m_r11_needs_j7 )))))
def m_r11_needs_j9 : Option Int :=
  some 2
def m_r11_needs_j10 (y101_10 : Bool) : Option Int :=
  cond y101_10
  (some 2)
  (some 0)
def m_r11_needs_j11 : Option Int :=
  some 0
def m_r11_needs_j3 (p0 : GNode_) : Option Int :=
  cond (decide (((p0.Kind.toNat : Nat) : Int) ≠ 4))
  (cond (decide (((p0.Op.toNat : Nat) : Int) ≠ 0))
  (m_r11_needs_j9 )
  (cond (decide (((p0.Kind.toNat : Nat) : Int) ≠ 7))
  (cond (decide (((p0.Kind.toNat : Nat) : Int) ≠ 8))
  (cond (decide (p0.Name ≠ ([] : List UInt8)))
  (m_r11_needs_j9 )
  (cond (decide (((p0.Kind.toNat : Nat) : Int) ≠ 8))
  (cond (decide (p0.Var ≠ ([] : List UInt8)))
  (m_r11_needs_j9 )
  (cond (decide (((p0.Kind.toNat : Nat) : Int) ≠ 9))
  (Option.bind (some ((!(decide (((p0.Val.Kind.toNat : Nat) : Int) = 0) && (decide (p0.Val.N = 0) && (decide (p0.Val.Bits = 0) && (decide (p0.Val.Text = ([] : List UInt8)) && true))))))) fun v99_8 =>
  m_r11_needs_j10  v99_8)
  (m_r11_needs_j11 )))
  (cond (decide (((p0.Kind.toNat : Nat) : Int) ≠ 9))
  (Option.bind (some ((!(decide (((p0.Val.Kind.toNat : Nat) : Int) = 0) && (decide (p0.Val.N = 0) && (decide (p0.Val.Bits = 0) && (decide (p0.Val.Text = ([] : List UInt8)) && true))))))) fun v99_8 =>
  m_r11_needs_j10  v99_8)
  (m_r11_needs_j11 ))))
  (cond (decide (((p0.Kind.toNat : Nat) : Int) ≠ 8))
  (cond (decide (p0.Var ≠ ([] : List UInt8)))
  (m_r11_needs_j9 )
  (cond (decide (((p0.Kind.toNat : Nat) : Int) ≠ 9))
  (Option.bind (some ((!(decide (((p0.Val.Kind.toNat : Nat) : Int) = 0) && (decide (p0.Val.N = 0) && (decide (p0.Val.Bits = 0) && (decide (p0.Val.Text = ([] : List UInt8)) && true))))))) fun v99_8 =>
  m_r11_needs_j10  v99_8)
  (m_r11_needs_j11 )))
  (cond (decide (((p0.Kind.toNat : Nat) : Int) ≠ 9))
  (Option.bind (some ((!(decide (((p0.Val.Kind.toNat : Nat) : Int) = 0) && (decide (p0.Val.N = 0) && (decide (p0.Val.Bits = 0) && (decide (p0.Val.Text = ([] : List UInt8)) && true))))))) fun v99_8 =>
  m_r11_needs_j10  v99_8)
  (m_r11_needs_j11 ))))
  (cond (decide (((p0.Kind.toNat : Nat) : Int) ≠ 8))
  (cond (decide (p0.Var ≠ ([] : List UInt8)))
  (m_r11_needs_j9 )
  (cond (decide (((p0.Kind.toNat : Nat) : Int) ≠ 9))
  (Option.bind (some ((!(decide (((p0.Val.Kind.toNat : Nat) : Int) = 0) && (decide (p0.Val.N = 0) && (decide (p0.Val.Bits = 0) && (decide (p0.Val.Text = ([] : List UInt8)) && true))))))) fun v99_8 =>
  m_r11_needs_j10  v99_8)
  (m_r11_needs_j11 )))
  (cond (decide (((p0.Kind.toNat : Nat) : Int) ≠ 9))
  (Option.bind (some ((!(decide (((p0.Val.Kind.toNat : Nat) : Int) = 0) && (decide (p0.Val.N = 0) && (decide (p0.Val.Bits = 0) && (decide (p0.Val.Text = ([] : List UInt8)) && true))))))) fun v99_8 =>
  m_r11_needs_j10  v99_8)
  (m_r11_needs_j11 )))))
  (cond (decide (((p0.Kind.toNat : Nat) : Int) ≠ 7))
  (cond (decide (((p0.Kind.toNat : Nat) : Int) ≠ 8))
  (cond (decide (p0.Name ≠ ([] : List UInt8)))
  (m_r11_needs_j9 )
  (cond (decide (((p0.Kind.toNat : Nat) : Int) ≠ 8))
  (cond (decide (p0.Var ≠ ([] : List UInt8)))
  (m_r11_needs_j9 )
  (cond (decide (((p0.Kind.toNat : Nat) : Int) ≠ 9))
  (Option.bind (some ((!(decide (((p0.Val.Kind.toNat : Nat) : Int) = 0) && (decide (p0.Val.N = 0) && (decide (p0.Val.Bits = 0) && (decide (p0.Val.Text = ([] : List UInt8)) && true))))))) fun v99_8 =>
  m_r11_needs_j10  v99_8)
  (m_r11_needs_j11 )))
  (cond (decide (((p0.Kind.toNat : Nat) : Int) ≠ 9))
  (Option.bind (some ((!(decide (((p0.Val.Kind.toNat : Nat) : Int) = 0) && (decide (p0.Val.N = 0) && (decide (p0.Val.Bits = 0) && (decide (p0.Val.Text = ([] : List UInt8)) && true))))))) fun v99_8 =>
  m_r11_needs_j10  v99_8)
  (m_r11_needs_j11 ))))
  (cond (decide (((p0.Kind.toNat : Nat) : Int) ≠ 8))
  (cond (decide (p0.Var ≠ ([] : List UInt8)))
  (m_r11_needs_j9 )
  (cond (decide (((p0.Kind.toNat : Nat) : Int) ≠ 9))
  (Option.bind (some ((!(decide (((p0.Val.Kind.toNat : Nat) : Int) = 0) && (decide (p0.Val.N = 0) && (decide (p0.Val.Bits = 0) && (decide (p0.Val.Text = ([] : List UInt8)) && true))))))) fun v99_8 =>
  m_r11_needs_j10  v99_8)
  (m_r11_needs_j11 )))
  (cond (decide (((p0.Kind.toNat : Nat) : Int) ≠ 9))
  (Option.bind (some ((!(decide (((p0.Val.Kind.toNat : Nat) : Int) = 0) && (decide (p0.Val.N = 0) && (decide (p0.Val.Bits = 0) && (decide (p0.Val.Text = ([] : List UInt8)) && true))))))) fun v99_8 =>
  m_r11_needs_j10  v99_8)
  (m_r11_needs_j11 ))))
  (cond (decide (((p0.Kind.toNat : Nat) : Int) ≠ 8))
  (cond (decide (p0.Var ≠ ([] : List UInt8)))
  (m_r11_needs_j9 )
  (cond (decide (((p0.Kind.toNat : Nat) : Int) ≠ 9))
  (Option.bind (some ((!(decide (((p0.Val.Kind.toNat : Nat) : Int) = 0) && (decide (p0.Val.N = 0) && (decide (p0.Val.Bits = 0) && (decide (p0.Val.Text = ([] : List UInt8)) && true))))))) fun v99_8 =>
  m_r11_needs_j10  v99_8)
  (m_r11_needs_j11 )))
  (cond (decide (((p0.Kind.toNat : Nat) : Int) ≠ 9))
  (Option.bind (some ((!(decide (((p0.Val.Kind.toNat : Nat) : Int) = 0) && (decide (p0.Val.N = 0) && (decide (p0.Val.Bits = 0) && (decide (p0.Val.Text = ([] : List UInt8)) && true))))))) fun v99_8 =>
  m_r11_needs_j10  v99_8)
  (m_r11_needs_j11 ))))
def m_r11_needs (p0 : GNode_) : Option Int :=
  cond (decide (((p0.Kind.toNat : Nat) : Int) = 4))
  (cond (decide (((p0.Op.toNat : Nat) : Int) < 1))
  (m_r11_needs_j1 )
  (cond (decide ((6 : Int) < ((p0.Op.toNat : Nat) : Int)))
  (m_r11_needs_j1 )
  (cond (decide (((p0.Kind.toNat : Nat) : Int) = 7))
  (Option.bind (m_r06_Name p0.Name) fun r31_0 =>
  cond (!r31_0)
  (m_r11_needs_j1 )
  (cond (decide (((p0.Kind.toNat : Nat) : Int) = 8))
  (Option.bind (m_r06_Name p0.Var) fun r42_0 =>
  cond (!r42_0)
  (m_r11_needs_j1 )
  (cond (decide (((p0.Kind.toNat : Nat) : Int) = 9))
  (Option.bind (m_r04_Check p0.Val) fun r53_0 =>
  m_r11_needs_j2 p0 (decide (r53_0 ≠ 0)))
  (m_r11_needs_j3 p0)))
  (cond (decide (((p0.Kind.toNat : Nat) : Int) = 9))
  (Option.bind (m_r04_Check p0.Val) fun r53_0 =>
  m_r11_needs_j2 p0 (decide (r53_0 ≠ 0)))
  (m_r11_needs_j3 p0))))
  (cond (decide (((p0.Kind.toNat : Nat) : Int) = 8))
  (Option.bind (m_r06_Name p0.Name) fun r31_0 =>
  cond (!r31_0)
  (m_r11_needs_j1 )
  (cond (decide (((p0.Kind.toNat : Nat) : Int) = 8))
  (Option.bind (m_r06_Name p0.Var) fun r42_0 =>
  cond (!r42_0)
  (m_r11_needs_j1 )
  (cond (decide (((p0.Kind.toNat : Nat) : Int) = 9))
  (Option.bind (m_r04_Check p0.Val) fun r53_0 =>
  m_r11_needs_j2 p0 (decide (r53_0 ≠ 0)))
  (m_r11_needs_j3 p0)))
  (cond (decide (((p0.Kind.toNat : Nat) : Int) = 9))
  (Option.bind (m_r04_Check p0.Val) fun r53_0 =>
  m_r11_needs_j2 p0 (decide (r53_0 ≠ 0)))
  (m_r11_needs_j3 p0))))
  (cond (decide (((p0.Kind.toNat : Nat) : Int) = 8))
  (Option.bind (m_r06_Name p0.Var) fun r42_0 =>
  cond (!r42_0)
  (m_r11_needs_j1 )
  (cond (decide (((p0.Kind.toNat : Nat) : Int) = 9))
  (Option.bind (m_r04_Check p0.Val) fun r53_0 =>
  m_r11_needs_j2 p0 (decide (r53_0 ≠ 0)))
  (m_r11_needs_j3 p0)))
  (cond (decide (((p0.Kind.toNat : Nat) : Int) = 9))
  (Option.bind (m_r04_Check p0.Val) fun r53_0 =>
  m_r11_needs_j2 p0 (decide (r53_0 ≠ 0)))
  (m_r11_needs_j3 p0)))))))
  (cond (decide (((p0.Kind.toNat : Nat) : Int) = 7))
  (Option.bind (m_r06_Name p0.Name) fun r31_0 =>
  cond (!r31_0)
  (m_r11_needs_j1 )
  (cond (decide (((p0.Kind.toNat : Nat) : Int) = 8))
  (Option.bind (m_r06_Name p0.Var) fun r42_0 =>
  cond (!r42_0)
  (m_r11_needs_j1 )
  (cond (decide (((p0.Kind.toNat : Nat) : Int) = 9))
  (Option.bind (m_r04_Check p0.Val) fun r53_0 =>
  m_r11_needs_j2 p0 (decide (r53_0 ≠ 0)))
  (m_r11_needs_j3 p0)))
  (cond (decide (((p0.Kind.toNat : Nat) : Int) = 9))
  (Option.bind (m_r04_Check p0.Val) fun r53_0 =>
  m_r11_needs_j2 p0 (decide (r53_0 ≠ 0)))
  (m_r11_needs_j3 p0))))
  (cond (decide (((p0.Kind.toNat : Nat) : Int) = 8))
  (Option.bind (m_r06_Name p0.Name) fun r31_0 =>
  cond (!r31_0)
  (m_r11_needs_j1 )
  (cond (decide (((p0.Kind.toNat : Nat) : Int) = 8))
  (Option.bind (m_r06_Name p0.Var) fun r42_0 =>
  cond (!r42_0)
  (m_r11_needs_j1 )
  (cond (decide (((p0.Kind.toNat : Nat) : Int) = 9))
  (Option.bind (m_r04_Check p0.Val) fun r53_0 =>
  m_r11_needs_j2 p0 (decide (r53_0 ≠ 0)))
  (m_r11_needs_j3 p0)))
  (cond (decide (((p0.Kind.toNat : Nat) : Int) = 9))
  (Option.bind (m_r04_Check p0.Val) fun r53_0 =>
  m_r11_needs_j2 p0 (decide (r53_0 ≠ 0)))
  (m_r11_needs_j3 p0))))
  (cond (decide (((p0.Kind.toNat : Nat) : Int) = 8))
  (Option.bind (m_r06_Name p0.Var) fun r42_0 =>
  cond (!r42_0)
  (m_r11_needs_j1 )
  (cond (decide (((p0.Kind.toNat : Nat) : Int) = 9))
  (Option.bind (m_r04_Check p0.Val) fun r53_0 =>
  m_r11_needs_j2 p0 (decide (r53_0 ≠ 0)))
  (m_r11_needs_j3 p0)))
  (cond (decide (((p0.Kind.toNat : Nat) : Int) = 9))
  (Option.bind (m_r04_Check p0.Val) fun r53_0 =>
  m_r11_needs_j2 p0 (decide (r53_0 ≠ 0)))
  (m_r11_needs_j3 p0)))))

def m_r11_Kids_j1 : Option Int :=
  some 2
def m_r11_Kids (p0 : UInt8) : Option Int :=
  cond (decide (((p0.toNat : Nat) : Int) = 1))
  (m_r11_Kids_j1 )
  (cond (decide (((p0.toNat : Nat) : Int) = 2))
  (m_r11_Kids_j1 )
  (cond (decide (((p0.toNat : Nat) : Int) = 4))
  (m_r11_Kids_j1 )
  (cond (decide (((p0.toNat : Nat) : Int) = 5))
  (m_r11_Kids_j1 )
  (cond (decide (((p0.toNat : Nat) : Int) = 6))
  (some 2)
  (cond (decide (((p0.toNat : Nat) : Int) = 3))
  (some 1)
  (some 0))))))

def m_r11_kid (p0 : UInt8) (p1 : Int) : Option Int :=
  cond (decide (((p0.toNat : Nat) : Int) ≤ 3))
  (some 1)
  (cond (decide (((p0.toNat : Nat) : Int) = 4))
  (some 2)
  (cond (decide (p1 = 0))
  (some 2)
  (some 3)))

def m_r11_tree_l4 (p0 : (List GNode_)) (p3 : Int) (x25_1 : GNode_) (k_rec : (List GNode_) → Int → Int → Int → Option (Int × Int)) : Nat → Int → Int → Option (Int × Int)
  | 0, _, _ => none
  | fu_4 + 1, y1_4, y12_4 =>
    Option.bind (m_r11_Kids x25_1.Kind) fun r44_5 =>
    cond (decide (y12_4 < r44_5))
    (Option.bind (m_r11_kid x25_1.Kind y12_4) fun r54_6 =>
    Option.bind (k_rec p0 y1_4 r54_6 (IntKind.i64.wrap (p3 + 1))) fun r57_6 =>
    cond (decide (r57_6.2 ≠ 0))
    (some (r57_6.1, r57_6.2))
    (m_r11_tree_l4 p0 p3 x25_1 k_rec fu_4 r57_6.1 (IntKind.i64.wrap (y12_4 + 1))))
    (some (y1_4, 0))
def m_r11_tree : Nat → (List GNode_) → Int → Int → Int → Option (Int × Int)
  | 0, _, _, _, _ => none
  | fuR + 1, p0, p1, p2, p3 =>
    cond (decide (((List.length p0 : Nat) : Int) ≤ p1))
    (some (p1, 3))
    (cond (decide ((16 : Int) ≤ p3))
    (some (p1, 15))
    (Option.bind (geti p0 p1) fun x25_1 =>
    Option.bind (m_r11_may x25_1.Kind p2) fun r30_2 =>
    cond (!r30_2)
    (some (p1, 11))
    (Option.bind (m_r11_needs x25_1) fun r34_3 =>
    cond (decide (r34_3 ≠ 0))
    (some (p1, r34_3))
    (m_r11_tree_l4 p0 p3 x25_1 (fun p0 p1 p2 p3 => m_r11_tree fuR p0 p1 p2 p3) 1152921504606846976 (IntKind.i64.wrap (p1 + 1)) 0))))

def m_r11_Check (p0 : (List GNode_)) : Option Int :=
  cond (decide ((30 : Int) < ((List.length p0 : Nat) : Int)))
  (some 5)
  (cond (decide (((List.length p0 : Nat) : Int) = 0))
  (some 0)
  (Option.bind (m_r11_tree 1152921504606846976 p0 0 1 0) fun r13_2 =>
  cond (decide (r13_2.2 ≠ 0))
  (some r13_2.2)
  (cond (decide (r13_2.1 < ((List.length p0 : Nat) : Int)))
  (some 5)
  (some 0))))

def m_r13_needs_j9 : Option Int :=
  some 4
def m_r13_needs_j11 : Option Int :=
  some 2
def m_r13_needs_j12 : Option Int :=
  some 0
def m_r13_needs_j7 (p0 : GNode) : Option Int :=
  Option.bind (m_r06_Name p0.Var) fun r86_8 =>
  cond (!r86_8)
  (m_r13_needs_j9 )
  (Option.bind (m_r06_Name p0.Type_) fun r91_8 =>
  cond (!r91_8)
  (m_r13_needs_j9 )
  (Option.bind (m_r11_Check p0.Test) fun r97_8 =>
  cond (decide (r97_8 ≠ 0))
  (some 4)
  (cond (decide (p0.Kids ≠ 0))
  (m_r13_needs_j11 )
  (cond (decide (((p0.Kind.toNat : Nat) : Int) ≠ 3))
  (cond (decide (p0.Lo ≠ 0))
  (m_r13_needs_j11 )
  (cond (decide (p0.Hi ≠ 0))
  (m_r13_needs_j11 )
  (m_r13_needs_j12 )))
  (m_r13_needs_j12 )))))
def m_r13_needs_j4 : Option Int :=
  some 4
def m_r13_needs_j5 (p0 : GNode) : Option Int :=
  cond (decide (p0.Hi = 1))
  (some 4)
  (m_r13_needs_j7 p0)
def m_r13_needs_j6 (p0 : GNode) : Option Int :=
  m_r13_needs_j7 p0
def m_r13_needs_j21 : Option Int :=
  some 4
def m_r13_needs_j23 : Option Int :=
  some 2
def m_r13_needs_j24 : Option Int :=
  some 0
def m_r13_needs_j19 (p0 : GNode) : Option Int :=
  Option.bind (m_r06_Name p0.Var) fun r86_20 =>
  cond (!r86_20)
  (m_r13_needs_j21 )
  (Option.bind (m_r06_Name p0.Type_) fun r91_20 =>
  cond (!r91_20)
  (m_r13_needs_j21 )
  (Option.bind (m_r11_Check p0.Test) fun r97_20 =>
  cond (decide (r97_20 ≠ 0))
  (some 4)
  (cond (decide (p0.Kids ≠ 0))
  (m_r13_needs_j23 )
  (cond (decide (((p0.Kind.toNat : Nat) : Int) ≠ 3))
  (cond (decide (p0.Lo ≠ 0))
  (m_r13_needs_j23 )
  (cond (decide (p0.Hi ≠ 0))
  (m_r13_needs_j23 )
  (m_r13_needs_j24 )))
  (m_r13_needs_j24 )))))
def m_r13_needs_j16 : Option Int :=
  some 4
def m_r13_needs_j17 (p0 : GNode) : Option Int :=
  cond (decide (p0.Hi = 1))
  (some 4)
  (m_r13_needs_j19 p0)
def m_r13_needs_j18 (p0 : GNode) : Option Int :=
  m_r13_needs_j19 p0
def m_r13_needs_j14 (p0 : GNode) : Option Int :=
  cond (decide (((p0.Kind.toNat : Nat) : Int) = 3))
  (cond (decide (p0.Kids ≠ 1))
  (m_r13_needs_j16 )
  (cond (decide (p0.Lo < 0))
  (m_r13_needs_j16 )
  (cond (decide ((8 : Int) < p0.Lo))
  (m_r13_needs_j16 )
  (cond (decide (p0.Hi < 0))
  (m_r13_needs_j16 )
  (cond (decide ((8 : Int) < p0.Hi))
  (m_r13_needs_j16 )
  (cond (decide ((0 : Int) < p0.Hi))
  (cond (decide (p0.Hi < p0.Lo))
  (m_r13_needs_j16 )
  (cond (decide (p0.Lo = 1))
  (m_r13_needs_j17 p0)
  (m_r13_needs_j18 p0)))
  (cond (decide (p0.Lo = 1))
  (m_r13_needs_j17 p0)
  (m_r13_needs_j18 p0))))))))
  (m_r13_needs_j18 p0)
def m_r13_needs_j36 : Option Int :=
  some 2
def m_r13_needs_j37 (p0 : GNode) : Option Int :=
  cond (decide ((0 : Int) < ((List.length p0.Test : Nat) : Int)))
  (some 2)
  (some 0)
def m_r13_needs_j38 : Option Int :=
  some 0
def m_r13_needs_j34 (p0 : GNode) : Option Int :=
  cond (decide (((p0.Kind.toNat : Nat) : Int) = 5))
  (cond (decide (p0.Kids ≠ 0))
  (m_r13_needs_j36 )
  (cond (decide (((p0.Kind.toNat : Nat) : Int) ≠ 3))
  (cond (decide (p0.Lo ≠ 0))
  (m_r13_needs_j36 )
  (cond (decide (p0.Hi ≠ 0))
  (m_r13_needs_j36 )
  (cond (!decide (((p0.Kind.toNat : Nat) : Int) = 5))
  (cond (decide (p0.Var ≠ ([] : List UInt8)))
  (m_r13_needs_j36 )
  (cond (decide (p0.Type_ ≠ ([] : List UInt8)))
  (m_r13_needs_j36 )
  (m_r13_needs_j37 p0)))
  (m_r13_needs_j38 ))))
  (cond (!decide (((p0.Kind.toNat : Nat) : Int) = 5))
  (cond (decide (p0.Var ≠ ([] : List UInt8)))
  (m_r13_needs_j36 )
  (cond (decide (p0.Type_ ≠ ([] : List UInt8)))
  (m_r13_needs_j36 )
  (m_r13_needs_j37 p0)))
  (m_r13_needs_j38 ))))
  (cond (decide (((p0.Kind.toNat : Nat) : Int) ≠ 3))
  (cond (decide (p0.Lo ≠ 0))
  (m_r13_needs_j36 )
  (cond (decide (p0.Hi ≠ 0))
  (m_r13_needs_j36 )
  (cond (!decide (((p0.Kind.toNat : Nat) : Int) = 5))
  (cond (decide (p0.Var ≠ ([] : List UInt8)))
  (m_r13_needs_j36 )
  (cond (decide (p0.Type_ ≠ ([] : List UInt8)))
  (m_r13_needs_j36 )
  (m_r13_needs_j37 p0)))
  (m_r13_needs_j38 ))))
  (cond (!decide (((p0.Kind.toNat : Nat) : Int) = 5))
  (cond (decide (p0.Var ≠ ([] : List UInt8)))
  (m_r13_needs_j36 )
  (cond (decide (p0.Type_ ≠ ([] : List UInt8)))
  (m_r13_needs_j36 )
  (m_r13_needs_j37 p0)))
  (m_r13_needs_j38 )))
def m_r13_needs_j33 : Option Int :=
  some 4
def m_r13_needs_j31 (p0 : GNode) : Option Int :=
  cond (decide (((p0.Kind.toNat : Nat) : Int) = 5))
  (Option.bind (m_r06_Name p0.Var) fun r86_32 =>
  cond (!r86_32)
  (m_r13_needs_j33 )
  (Option.bind (m_r06_Name p0.Type_) fun r91_32 =>
  cond (!r91_32)
  (m_r13_needs_j33 )
  (Option.bind (m_r11_Check p0.Test) fun r97_32 =>
  cond (decide (r97_32 ≠ 0))
  (some 4)
  (m_r13_needs_j34 p0))))
  (m_r13_needs_j34 p0)
def m_r13_needs_j28 : Option Int :=
  some 4
def m_r13_needs_j29 (p0 : GNode) : Option Int :=
  cond (decide (p0.Hi = 1))
  (some 4)
  (m_r13_needs_j31 p0)
def m_r13_needs_j30 (p0 : GNode) : Option Int :=
  m_r13_needs_j31 p0
def m_r13_needs_j50 : Option Int :=
  some 2
def m_r13_needs_j51 (p0 : GNode) : Option Int :=
  cond (decide ((0 : Int) < ((List.length p0.Test : Nat) : Int)))
  (some 2)
  (some 0)
def m_r13_needs_j52 : Option Int :=
  some 0
def m_r13_needs_j48 (p0 : GNode) : Option Int :=
  cond (decide (((p0.Kind.toNat : Nat) : Int) = 5))
  (cond (decide (p0.Kids ≠ 0))
  (m_r13_needs_j50 )
  (cond (decide (((p0.Kind.toNat : Nat) : Int) ≠ 3))
  (cond (decide (p0.Lo ≠ 0))
  (m_r13_needs_j50 )
  (cond (decide (p0.Hi ≠ 0))
  (m_r13_needs_j50 )
  (cond (!decide (((p0.Kind.toNat : Nat) : Int) = 5))
  (cond (decide (p0.Var ≠ ([] : List UInt8)))
  (m_r13_needs_j50 )
  (cond (decide (p0.Type_ ≠ ([] : List UInt8)))
  (m_r13_needs_j50 )
  (m_r13_needs_j51 p0)))
  (m_r13_needs_j52 ))))
  (cond (!decide (((p0.Kind.toNat : Nat) : Int) = 5))
  (cond (decide (p0.Var ≠ ([] : List UInt8)))
  (m_r13_needs_j50 )
  (cond (decide (p0.Type_ ≠ ([] : List UInt8)))
  (m_r13_needs_j50 )
  (m_r13_needs_j51 p0)))
  (m_r13_needs_j52 ))))
  (cond (decide (((p0.Kind.toNat : Nat) : Int) ≠ 3))
  (cond (decide (p0.Lo ≠ 0))
  (m_r13_needs_j50 )
  (cond (decide (p0.Hi ≠ 0))
  (m_r13_needs_j50 )
  (cond (!decide (((p0.Kind.toNat : Nat) : Int) = 5))
  (cond (decide (p0.Var ≠ ([] : List UInt8)))
  (m_r13_needs_j50 )
  (cond (decide (p0.Type_ ≠ ([] : List UInt8)))
  (m_r13_needs_j50 )
  (m_r13_needs_j51 p0)))
  (m_r13_needs_j52 ))))
  (cond (!decide (((p0.Kind.toNat : Nat) : Int) = 5))
  (cond (decide (p0.Var ≠ ([] : List UInt8)))
  (m_r13_needs_j50 )
  (cond (decide (p0.Type_ ≠ ([] : List UInt8)))
  (m_r13_needs_j50 )
  (m_r13_needs_j51 p0)))
  (m_r13_needs_j52 )))
def m_r13_needs_j47 : Option Int :=
  some 4
def m_r13_needs_j45 (p0 : GNode) : Option Int :=
  cond (decide (((p0.Kind.toNat : Nat) : Int) = 5))
  (Option.bind (m_r06_Name p0.Var) fun r86_46 =>
  cond (!r86_46)
  (m_r13_needs_j47 )
  (Option.bind (m_r06_Name p0.Type_) fun r91_46 =>
  cond (!r91_46)
  (m_r13_needs_j47 )
  (Option.bind (m_r11_Check p0.Test) fun r97_46 =>
  cond (decide (r97_46 ≠ 0))
  (some 4)
  (m_r13_needs_j48 p0))))
  (m_r13_needs_j48 p0)
def m_r13_needs_j42 : Option Int :=
  some 4
def m_r13_needs_j43 (p0 : GNode) : Option Int :=
  cond (decide (p0.Hi = 1))
  (some 4)
  (m_r13_needs_j45 p0)
def m_r13_needs_j44 (p0 : GNode) : Option Int :=
  m_r13_needs_j45 p0
def m_r13_needs_j40 (p0 : GNode) : Option Int :=
  cond (decide (((p0.Kind.toNat : Nat) : Int) = 3))
  (cond (decide (p0.Kids ≠ 1))
  (m_r13_needs_j42 )
  (cond (decide (p0.Lo < 0))
  (m_r13_needs_j42 )
  (cond (decide ((8 : Int) < p0.Lo))
  (m_r13_needs_j42 )
  (cond (decide (p0.Hi < 0))
  (m_r13_needs_j42 )
  (cond (decide ((8 : Int) < p0.Hi))
  (m_r13_needs_j42 )
  (cond (decide ((0 : Int) < p0.Hi))
  (cond (decide (p0.Hi < p0.Lo))
  (m_r13_needs_j42 )
  (cond (decide (p0.Lo = 1))
  (m_r13_needs_j43 p0)
  (m_r13_needs_j44 p0)))
  (cond (decide (p0.Lo = 1))
  (m_r13_needs_j43 p0)
  (m_r13_needs_j44 p0))))))))
  (m_r13_needs_j44 p0)
def m_r13_needs (p0 : GNode) : Option Int :=
  cond (decide (((p0.Kind.toNat : Nat) : Int) = 4))
  (cond (decide (((p0.Kind.toNat : Nat) : Int) = 1))
  (cond (decide (p0.Kids < 2))
  (some 4)
  (cond (decide ((40 : Int) < p0.Kids))
  (some 4)
  (cond (decide (((p0.Kind.toNat : Nat) : Int) = 3))
  (cond (decide (p0.Kids ≠ 1))
  (m_r13_needs_j4 )
  (cond (decide (p0.Lo < 0))
  (m_r13_needs_j4 )
  (cond (decide ((8 : Int) < p0.Lo))
  (m_r13_needs_j4 )
  (cond (decide (p0.Hi < 0))
  (m_r13_needs_j4 )
  (cond (decide ((8 : Int) < p0.Hi))
  (m_r13_needs_j4 )
  (cond (decide ((0 : Int) < p0.Hi))
  (cond (decide (p0.Hi < p0.Lo))
  (m_r13_needs_j4 )
  (cond (decide (p0.Lo = 1))
  (m_r13_needs_j5 p0)
  (m_r13_needs_j6 p0)))
  (cond (decide (p0.Lo = 1))
  (m_r13_needs_j5 p0)
  (m_r13_needs_j6 p0))))))))
  (m_r13_needs_j6 p0))))
  (cond (decide (((p0.Kind.toNat : Nat) : Int) = 2))
  (cond (decide (p0.Kids < 2))
  (some 4)
  (cond (decide ((40 : Int) < p0.Kids))
  (some 4)
  (m_r13_needs_j14 p0)))
  (m_r13_needs_j14 p0)))
  (cond (decide (((p0.Kind.toNat : Nat) : Int) = 1))
  (cond (decide (p0.Kids < 2))
  (some 4)
  (cond (decide ((40 : Int) < p0.Kids))
  (some 4)
  (cond (decide (((p0.Kind.toNat : Nat) : Int) = 3))
  (cond (decide (p0.Kids ≠ 1))
  (m_r13_needs_j28 )
  (cond (decide (p0.Lo < 0))
  (m_r13_needs_j28 )
  (cond (decide ((8 : Int) < p0.Lo))
  (m_r13_needs_j28 )
  (cond (decide (p0.Hi < 0))
  (m_r13_needs_j28 )
  (cond (decide ((8 : Int) < p0.Hi))
  (m_r13_needs_j28 )
  (cond (decide ((0 : Int) < p0.Hi))
  (cond (decide (p0.Hi < p0.Lo))
  (m_r13_needs_j28 )
  (cond (decide (p0.Lo = 1))
  (m_r13_needs_j29 p0)
  (m_r13_needs_j30 p0)))
  (cond (decide (p0.Lo = 1))
  (m_r13_needs_j29 p0)
  (m_r13_needs_j30 p0))))))))
  (m_r13_needs_j30 p0))))
  (cond (decide (((p0.Kind.toNat : Nat) : Int) = 2))
  (cond (decide (p0.Kids < 2))
  (some 4)
  (cond (decide ((40 : Int) < p0.Kids))
  (some 4)
  (m_r13_needs_j40 p0)))
  (m_r13_needs_j40 p0)))

def m_r13_tree_l8 (p0 : (List GNode)) (p3 : Int) (x25_1 : GNode) (k_rec : (List GNode) → Int → UInt8 → Int → Option (Int × Int)) : Nat → Int → Int → Option (Int × Int)
  | 0, _, _ => none
  | fu_8 + 1, y1_8, y12_8 =>
    Option.bind (m_r13_Kids x25_1) fun r65_9 =>
    cond (decide (y12_8 < r65_9))
    (Option.bind (k_rec p0 y1_8 x25_1.Kind (IntKind.i64.wrap (p3 + 1))) fun r76_10 =>
    cond (decide (r76_10.2 ≠ 0))
    (some (r76_10.1, r76_10.2))
    (m_r13_tree_l8 p0 p3 x25_1 k_rec fu_8 r76_10.1 (IntKind.i64.wrap (y12_8 + 1))))
    (some (y1_8, 0))
def m_r13_tree_j6 (p0 : (List GNode)) (p1 : Int) (p3 : Int) (x25_1 : GNode) (k_rec : (List GNode) → Int → UInt8 → Int → Option (Int × Int)) : Option (Int × Int) :=
  Option.bind (m_r13_needs x25_1) fun r56_7 =>
  cond (decide (r56_7 ≠ 0))
  (some (p1, r56_7))
  (m_r13_tree_l8 p0 p3 x25_1 k_rec 1152921504606846976 (IntKind.i64.wrap (p1 + 1)) 0)
def m_r13_tree_j3 (p1 : Int) : Option (Int × Int) :=
  some (p1, 11)
def m_r13_tree_j4 (p0 : (List GNode)) (p1 : Int) (p2 : UInt8) (p3 : Int) (x25_1 : GNode) (k_rec : (List GNode) → Int → UInt8 → Int → Option (Int × Int)) : Option (Int × Int) :=
  cond (decide (((p2.toNat : Nat) : Int) = 3))
  (some (p1, 11))
  (m_r13_tree_j6 p0 p1 p3 x25_1 k_rec)
def m_r13_tree_j5 (p0 : (List GNode)) (p1 : Int) (p3 : Int) (x25_1 : GNode) (k_rec : (List GNode) → Int → UInt8 → Int → Option (Int × Int)) : Option (Int × Int) :=
  m_r13_tree_j6 p0 p1 p3 x25_1 k_rec
def m_r13_tree : Nat → (List GNode) → Int → UInt8 → Int → Option (Int × Int)
  | 0, _, _, _, _ => none
  | fuR + 1, p0, p1, p2, p3 =>
    cond (decide (((List.length p0 : Nat) : Int) ≤ p1))
    (some (p1, 3))
    (cond (decide ((16 : Int) ≤ p3))
    (some (p1, 15))
    (Option.bind (geti p0 p1) fun x25_1 =>
    cond (decide (((x25_1.Kind.toNat : Nat) : Int) < 1))
    (m_r13_tree_j3 p1)
    (cond (decide ((5 : Int) < ((x25_1.Kind.toNat : Nat) : Int)))
    (m_r13_tree_j3 p1)
    (cond (decide (((x25_1.Kind.toNat : Nat) : Int) = ((p2.toNat : Nat) : Int)))
    (cond (decide (((p2.toNat : Nat) : Int) ≤ 2))
    (m_r13_tree_j3 p1)
    (cond (decide (((x25_1.Kind.toNat : Nat) : Int) = 5))
    (m_r13_tree_j4 p0 p1 p2 p3 x25_1 (fun p0 p1 p2 p3 => m_r13_tree fuR p0 p1 p2 p3))
    (m_r13_tree_j5 p0 p1 p3 x25_1 (fun p0 p1 p2 p3 => m_r13_tree fuR p0 p1 p2 p3))))
    (cond (decide (((x25_1.Kind.toNat : Nat) : Int) = 5))
    (m_r13_tree_j4 p0 p1 p2 p3 x25_1 (fun p0 p1 p2 p3 => m_r13_tree fuR p0 p1 p2 p3))
    (m_r13_tree_j5 p0 p1 p3 x25_1 (fun p0 p1 p2 p3 => m_r13_tree fuR p0 p1 p2 p3)))))))

def m_r13_Word (p0 : UInt8) : Option (List UInt8) :=
  cond (decide (((p0.toNat : Nat) : Int) = 1))
  (some ([97, 110, 121] : List UInt8))
  (cond (decide (((p0.toNat : Nat) : Int) = 2))
  (some ([110, 101, 120, 116] : List UInt8))
  (cond (decide (((p0.toNat : Nat) : Int) = 3))
  (some ([115, 116, 114, 105, 99, 116] : List UInt8))
  (some ([] : List UInt8))))

def m_r13_Check_j5 (p0 : GPattern) : Option Int :=
  Option.bind (m_r13_Word p0.Mode) fun r42_6 =>
  cond (decide (r42_6 = ([] : List UInt8)))
  (some 11)
  (some 0)
def m_r13_Check (p0 : GPattern) : Option Int :=
  cond (decide ((40 : Int) < ((List.length p0.Body : Nat) : Int)))
  (some 5)
  (Option.bind (m_r13_tree 1152921504606846976 p0.Body 0 0 0) fun r12_1 =>
  cond (decide (r12_1.2 ≠ 0))
  (some r12_1.2)
  (cond (decide (r12_1.1 < ((List.length p0.Body : Nat) : Int)))
  (some 5)
  (cond (decide (p0.Within < 1))
  (some 8)
  (cond (decide ((1073741824 : Int) < p0.Within))
  (some 8)
  (cond (decide (p0.By ≠ ([] : List UInt8)))
  (Option.bind (m_r06_Name p0.By) fun r37_4 =>
  cond (!r37_4)
  (some 4)
  (m_r13_Check_j5 p0))
  (m_r13_Check_j5 p0))))))

def m_r10_decimal_l1 : Nat → Int → (List UInt8) → Option (List UInt8)
  | 0, _, _ => none
  | fu_1 + 1, y0_1, y3_1 =>
    cond (decide ((0 : Int) < y0_1))
    (Option.bind (cut ([48, 49, 50, 51, 52, 53, 54, 55, 56, 57] : List UInt8) (Int.tmod y0_1 10) (IntKind.i64.wrap ((Int.tmod y0_1 10) + 1))) fun s21_2 =>
    Option.bind (app s21_2 y3_1) fun t23_2 =>
    m_r10_decimal_l1 fu_1 (IntKind.i64.wrap (Int.tdiv y0_1 10)) t23_2)
    (some y3_1)
def m_r10_decimal (p0 : Int) : Option (List UInt8) :=
  Option.bind (cut ([48, 49, 50, 51, 52, 53, 54, 55, 56, 57] : List UInt8) (Int.tmod p0 10) (IntKind.i64.wrap ((Int.tmod p0 10) + 1))) fun s9_0 =>
  m_r10_decimal_l1  1152921504606846976 (IntKind.i64.wrap (Int.tdiv p0 10)) s9_0

def m_r10_Literal_l3 : Nat → (List UInt8) → Int → Int → Option (List UInt8)
  | 0, _, _, _ => none
  | fu_3 + 1, y3_3, y4_3, y5_3 =>
    cond (decide (y5_3 < 16))
    (Option.bind (cut ([48, 49, 50, 51, 52, 53, 54, 55, 56, 57, 97, 98, 99, 100, 101, 102] : List UInt8) (Int.tmod y4_3 16) (IntKind.u64.wrap ((Int.tmod y4_3 16) + 1))) fun s46_4 =>
    Option.bind (app s46_4 y3_3) fun t48_4 =>
    m_r10_Literal_l3 fu_3 t48_4 (IntKind.u64.wrap (Int.tdiv y4_3 16)) (IntKind.i64.wrap (y5_3 + 1)))
    (Option.bind (app ([35] : List UInt8) y3_3) fun t52_5 =>
    some t52_5)
def m_r10_Literal_j11 (x63_8 : UInt8) (y6_6 : List UInt8) (y7_6 : Int) (k_m_r10_Literal_l6 : (List UInt8) → Int → Option (List UInt8)) : Option (List UInt8) :=
  Option.bind (app y6_6 ([92] : List UInt8)) fun t87_14 =>
  Option.bind (cut ([48, 49, 50, 51, 52, 53, 54, 55, 56, 57, 97, 98, 99, 100, 101, 102] : List UInt8) (((toU8 (Int.tdiv ((x63_8.toNat : Nat) : Int) 16)).toNat : Nat) : Int) (((toU8 ((((toU8 (Int.tdiv ((x63_8.toNat : Nat) : Int) 16)).toNat : Nat) : Int) + 1)).toNat : Nat) : Int)) fun s93_14 =>
  Option.bind (app t87_14 s93_14) fun t94_14 =>
  Option.bind (cut ([48, 49, 50, 51, 52, 53, 54, 55, 56, 57, 97, 98, 99, 100, 101, 102] : List UInt8) (((toU8 (Int.tmod ((x63_8.toNat : Nat) : Int) 16)).toNat : Nat) : Int) (((toU8 ((((toU8 (Int.tmod ((x63_8.toNat : Nat) : Int) 16)).toNat : Nat) : Int) + 1)).toNat : Nat) : Int)) fun s100_14 =>
  Option.bind (app t94_14 s100_14) fun t101_14 =>
  k_m_r10_Literal_l6 t101_14 (IntKind.i64.wrap (y7_6 + 1))
def m_r10_Literal_l6 (p0 : GValue) : Nat → (List UInt8) → Int → Option (List UInt8)
  | 0, _, _ => none
  | fu_6 + 1, y6_6, y7_6 =>
    cond (decide (y7_6 < ((List.length p0.Text : Nat) : Int)))
    (Option.bind (geti p0.Text y7_6) fun x63_8 =>
    cond (decide (((x63_8.toNat : Nat) : Int) = 39))
    (Option.bind (app y6_6 ([39, 39] : List UInt8)) fun t67_9 =>
    m_r10_Literal_l6 p0 fu_6 t67_9 (IntKind.i64.wrap (y7_6 + 1)))
    (cond (decide ((32 : Int) ≤ ((x63_8.toNat : Nat) : Int)))
    (cond (decide (((x63_8.toNat : Nat) : Int) ≤ 126))
    (cond (decide (((x63_8.toNat : Nat) : Int) ≠ 92))
    (Option.bind (cut p0.Text y7_6 (IntKind.i64.wrap (y7_6 + 1))) fun s84_12 =>
    Option.bind (app y6_6 s84_12) fun t85_12 =>
    m_r10_Literal_l6 p0 fu_6 t85_12 (IntKind.i64.wrap (y7_6 + 1)))
    (Option.bind (app y6_6 ([92] : List UInt8)) fun t87_13 =>
    Option.bind (cut ([48, 49, 50, 51, 52, 53, 54, 55, 56, 57, 97, 98, 99, 100, 101, 102] : List UInt8) (((toU8 (Int.tdiv ((x63_8.toNat : Nat) : Int) 16)).toNat : Nat) : Int) (((toU8 ((((toU8 (Int.tdiv ((x63_8.toNat : Nat) : Int) 16)).toNat : Nat) : Int) + 1)).toNat : Nat) : Int)) fun s93_13 =>
    Option.bind (app t87_13 s93_13) fun t94_13 =>
    Option.bind (cut ([48, 49, 50, 51, 52, 53, 54, 55, 56, 57, 97, 98, 99, 100, 101, 102] : List UInt8) (((toU8 (Int.tmod ((x63_8.toNat : Nat) : Int) 16)).toNat : Nat) : Int) (((toU8 ((((toU8 (Int.tmod ((x63_8.toNat : Nat) : Int) 16)).toNat : Nat) : Int) + 1)).toNat : Nat) : Int)) fun s100_13 =>
    Option.bind (app t94_13 s100_13) fun t101_13 =>
    m_r10_Literal_l6 p0 fu_6 t101_13 (IntKind.i64.wrap (y7_6 + 1))))
    (m_r10_Literal_j11 x63_8 y6_6 y7_6 (fun y6_6 y7_6 => m_r10_Literal_l6 p0 fu_6 y6_6 y7_6)))
    (m_r10_Literal_j11 x63_8 y6_6 y7_6 (fun y6_6 y7_6 => m_r10_Literal_l6 p0 fu_6 y6_6 y7_6))))
    (Option.bind (app y6_6 ([39] : List UInt8)) fun t103_15 =>
    some t103_15)
def m_r10_Literal (p0 : GValue) : Option (List UInt8) :=
  Option.bind (m_r04_Check p0) fun r10_0 =>
  cond (decide (r10_0 ≠ 0))
  (some ([] : List UInt8))
  (cond (decide (((p0.Kind.toNat : Nat) : Int) = 1))
  (cond (decide (p0.N < 0))
  (Option.bind (m_r10_decimal (IntKind.i64.wrap (0 - p0.N))) fun r21_1 =>
  Option.bind (app ([45] : List UInt8) r21_1) fun t22_1 =>
  some t22_1)
  (Option.bind (m_r10_decimal p0.N) fun r25_2 =>
  some r25_2))
  (cond (decide (((p0.Kind.toNat : Nat) : Int) = 2))
  (cond (decide (p0.N = 1))
  (some ([116, 114, 117, 101] : List UInt8))
  (some ([102, 97, 108, 115, 101] : List UInt8)))
  (cond (decide (((p0.Kind.toNat : Nat) : Int) = 3))
  (m_r10_Literal_l3  1152921504606846976 ([] : List UInt8) p0.Bits 0)
  (m_r10_Literal_l6 p0 1152921504606846976 ([39] : List UInt8) 0))))

def m_r11_about (p0 : (List UInt8)) (p1 : Bool) : Option (List UInt8) :=
  cond p1
  (Option.bind (app ([40] : List UInt8) p0) fun t7_0 =>
  Option.bind (app t7_0 ([41] : List UInt8)) fun t8_0 =>
  some t8_0)
  (some p0)

def m_r05_Sign (p0 : UInt8) : Option (List UInt8) :=
  cond (decide ((6 : Int) < ((p0.toNat : Nat) : Int)))
  (some ([] : List UInt8))
  (Option.bind (geti ([([] : List UInt8), ([61] : List UInt8), ([33, 61] : List UInt8), ([60] : List UInt8), ([60, 61] : List UInt8), ([62] : List UInt8), ([62, 61] : List UInt8)] : List (List UInt8)) ((p0.toNat : Nat) : Int)) fun x9_0 =>
  some x9_0)

def m_r11_text : Nat → (List GNode_) → Int → Option ((List UInt8) × Int)
  | 0, _, _ => none
  | fuR + 1, p0, p1 =>
    Option.bind (geti p0 p1) fun x15_0 =>
    cond (decide (((x15_0.Kind.toNat : Nat) : Int) = 7))
    (some (x15_0.Name, (IntKind.i64.wrap (p1 + 1))))
    (cond (decide (((x15_0.Kind.toNat : Nat) : Int) = 8))
    (Option.bind (app x15_0.Var ([46] : List UInt8)) fun t29_1 =>
    Option.bind (app t29_1 x15_0.Name) fun t32_1 =>
    some (t32_1, (IntKind.i64.wrap (p1 + 1))))
    (cond (decide (((x15_0.Kind.toNat : Nat) : Int) = 9))
    (Option.bind (m_r10_Literal x15_0.Val) fun r40_2 =>
    some (r40_2, (IntKind.i64.wrap (p1 + 1))))
    (Option.bind (geti p0 (IntKind.i64.wrap (p1 + 1))) fun x46_3 =>
    Option.bind (m_r11_text fuR p0 (IntKind.i64.wrap (p1 + 1))) fun r53_4 =>
    cond (decide (((x15_0.Kind.toNat : Nat) : Int) = 3))
    (cond (decide (((x46_3.Kind.toNat : Nat) : Int) = 1))
    (Option.bind (m_r11_about r53_4.1 true) fun r66_5 =>
    Option.bind (app ([110, 111, 116, 32] : List UInt8) r66_5) fun t67_5 =>
    some (t67_5, r53_4.2))
    (Option.bind (m_r11_about r53_4.1 (decide (((x46_3.Kind.toNat : Nat) : Int) = 2))) fun r66_5 =>
    Option.bind (app ([110, 111, 116, 32] : List UInt8) r66_5) fun t67_5 =>
    some (t67_5, r53_4.2)))
    (Option.bind (geti p0 r53_4.2) fun x71_6 =>
    Option.bind (m_r11_text fuR p0 r53_4.2) fun r77_7 =>
    cond (decide (((x15_0.Kind.toNat : Nat) : Int) = 1))
    (Option.bind (m_r11_about r53_4.1 (decide (((x46_3.Kind.toNat : Nat) : Int) = 2))) fun r86_8 =>
    Option.bind (app r86_8 ([32, 97, 110, 100, 32] : List UInt8)) fun t87_8 =>
    cond (decide (((x71_6.Kind.toNat : Nat) : Int) = 1))
    (Option.bind (m_r11_about r77_7.1 true) fun r95_8 =>
    Option.bind (app t87_8 r95_8) fun t96_8 =>
    some (t96_8, r77_7.2))
    (Option.bind (m_r11_about r77_7.1 (decide (((x71_6.Kind.toNat : Nat) : Int) = 2))) fun r95_8 =>
    Option.bind (app t87_8 r95_8) fun t96_8 =>
    some (t96_8, r77_7.2)))
    (cond (decide (((x15_0.Kind.toNat : Nat) : Int) = 2))
    (Option.bind (app r53_4.1 ([32, 111, 114, 32] : List UInt8)) fun t102_9 =>
    Option.bind (m_r11_about r77_7.1 (decide (((x71_6.Kind.toNat : Nat) : Int) = 2))) fun r106_9 =>
    Option.bind (app t102_9 r106_9) fun t107_9 =>
    some (t107_9, r77_7.2))
    (cond (decide (((x15_0.Kind.toNat : Nat) : Int) = 4))
    (Option.bind (app r53_4.1 ([32] : List UInt8)) fun t113_10 =>
    Option.bind (m_r05_Sign x15_0.Op) fun r116_10 =>
    Option.bind (app t113_10 r116_10) fun t117_10 =>
    Option.bind (app t117_10 ([32] : List UInt8)) fun t118_10 =>
    Option.bind (app t118_10 r77_7.1) fun t120_10 =>
    some (t120_10, r77_7.2))
    (cond (decide (((x15_0.Kind.toNat : Nat) : Int) = 5))
    (Option.bind (app r53_4.1 ([32, 43, 32] : List UInt8)) fun t126_11 =>
    Option.bind (app t126_11 r77_7.1) fun t128_11 =>
    some (t128_11, r77_7.2))
    (Option.bind (app r53_4.1 ([32, 45, 32] : List UInt8)) fun t131_12 =>
    Option.bind (app t131_12 r77_7.1) fun t133_12 =>
    some (t133_12, r77_7.2)))))))))

def m_r11_Print (p0 : (List GNode_)) : Option (List UInt8) :=
  cond (decide (((List.length p0 : Nat) : Int) = 0))
  (some ([] : List UInt8))
  (Option.bind (m_r11_Check p0) fun r10_0 =>
  cond (decide (r10_0 ≠ 0))
  (some ([] : List UInt8))
  (Option.bind (m_r11_text 1152921504606846976 p0 0) fun r15_1 =>
  some r15_1.1))

def m_r04_OfInt (p0 : Int) : Option GValue :=
  some (GValue.mk 1 (max (-4611686018427387904) (min 4611686018427387904 p0)) 0 ([] : List UInt8))

def m_r13_number (p0 : Int) : Option (List UInt8) :=
  Option.bind (m_r04_OfInt p0) fun r4_0 =>
  Option.bind (m_r10_Literal r4_0) fun r5_0 =>
  some r5_0

def m_r13_times_j5 (p0 : Int) (p1 : Int) : Option (List UInt8) :=
  cond (decide (p1 = p0))
  (Option.bind (m_r13_number p0) fun r27_6 =>
  Option.bind (app ([123] : List UInt8) r27_6) fun t28_6 =>
  Option.bind (app t28_6 ([125] : List UInt8)) fun t29_6 =>
  some t29_6)
  (cond (decide (p1 = 0))
  (Option.bind (m_r13_number p0) fun r33_7 =>
  Option.bind (app ([123] : List UInt8) r33_7) fun t34_7 =>
  Option.bind (app t34_7 ([44, 125] : List UInt8)) fun t35_7 =>
  some t35_7)
  (Option.bind (m_r13_number p0) fun r37_8 =>
  Option.bind (app ([123] : List UInt8) r37_8) fun t38_8 =>
  Option.bind (app t38_8 ([44] : List UInt8)) fun t39_8 =>
  Option.bind (m_r13_number p1) fun r41_8 =>
  Option.bind (app t39_8 r41_8) fun t42_8 =>
  Option.bind (app t42_8 ([125] : List UInt8)) fun t43_8 =>
  some t43_8))
def m_r13_times_j3 (p0 : Int) (p1 : Int) : Option (List UInt8) :=
  cond (decide (p0 = 0))
  (cond (decide (p1 = 1))
  (some ([63] : List UInt8))
  (m_r13_times_j5 p0 p1))
  (m_r13_times_j5 p0 p1)
def m_r13_times_j1 (p0 : Int) (p1 : Int) : Option (List UInt8) :=
  cond (decide (p0 = 0))
  (cond (decide (p1 = 0))
  (some ([42] : List UInt8))
  (m_r13_times_j3 p0 p1))
  (m_r13_times_j3 p0 p1)
def m_r13_times (p0 : Int) (p1 : Int) : Option (List UInt8) :=
  cond (decide (p0 = 1))
  (cond (decide (p1 = 0))
  (some ([43] : List UInt8))
  (m_r13_times_j1 p0 p1))
  (m_r13_times_j1 p0 p1)

def m_r13_text_j3 (p1 : Int) (x16_0 : GNode) (y7_3 : List UInt8) : Option ((List UInt8) × Int) :=
  cond (decide ((0 : Int) < ((List.length x16_0.Test : Nat) : Int)))
  (Option.bind (app y7_3 ([91] : List UInt8)) fun t37_5 =>
  Option.bind (m_r11_Print x16_0.Test) fun r40_5 =>
  Option.bind (app t37_5 r40_5) fun t41_5 =>
  Option.bind (app t41_5 ([93] : List UInt8)) fun t42_5 =>
  some (t42_5, (IntKind.i64.wrap (p1 + 1))))
  (some (y7_3, (IntKind.i64.wrap (p1 + 1))))
def m_r13_text_j15 (r62_9 : ((List UInt8) × Int)) (x16_0 : GNode) (y10_6 : Int) (y8_6 : List UInt8) (k_m_r13_text_l6 : (List UInt8) → Int → Int → Option ((List UInt8) × Int)) (y12_15 : List UInt8) : Option ((List UInt8) × Int) :=
  cond (decide ((0 : Int) < y10_6))
  (cond (decide (((x16_0.Kind.toNat : Nat) : Int) = 1))
  (Option.bind (app y8_6 ([59, 32] : List UInt8)) fun t92_18 =>
  Option.bind (app t92_18 y12_15) fun t99_16 =>
  k_m_r13_text_l6 t99_16 r62_9.2 (IntKind.i64.wrap (y10_6 + 1)))
  (cond (decide ((0 : Int) < y10_6))
  (Option.bind (app y8_6 ([32, 124, 32] : List UInt8)) fun t96_19 =>
  Option.bind (app t96_19 y12_15) fun t99_21 =>
  k_m_r13_text_l6 t99_21 r62_9.2 (IntKind.i64.wrap (y10_6 + 1)))
  (Option.bind (app y8_6 y12_15) fun t99_22 =>
  k_m_r13_text_l6 t99_22 r62_9.2 (IntKind.i64.wrap (y10_6 + 1)))))
  (cond (decide ((0 : Int) < y10_6))
  (Option.bind (app y8_6 ([32, 124, 32] : List UInt8)) fun t96_20 =>
  Option.bind (app t96_20 y12_15) fun t99_23 =>
  k_m_r13_text_l6 t99_23 r62_9.2 (IntKind.i64.wrap (y10_6 + 1)))
  (Option.bind (app y8_6 y12_15) fun t99_24 =>
  k_m_r13_text_l6 t99_24 r62_9.2 (IntKind.i64.wrap (y10_6 + 1))))
def m_r13_text_j11 (r62_9 : ((List UInt8) × Int)) (x16_0 : GNode) (x56_8 : GNode) (y10_6 : Int) (y8_6 : List UInt8) (k_m_r13_text_l6 : (List UInt8) → Int → Int → Option ((List UInt8) × Int)) : Option ((List UInt8) × Int) :=
  cond (decide (((x56_8.Kind.toNat : Nat) : Int) ≠ 4))
  (Option.bind (app ([40] : List UInt8) r62_9.1) fun t82_14 =>
  Option.bind (app t82_14 ([41] : List UInt8)) fun t83_14 =>
  m_r13_text_j15 r62_9 x16_0 y10_6 y8_6 k_m_r13_text_l6 t83_14)
  (m_r13_text_j15 r62_9 x16_0 y10_6 y8_6 k_m_r13_text_l6 r62_9.1)
def m_r13_text_j12 (r62_9 : ((List UInt8) × Int)) (x16_0 : GNode) (y10_6 : Int) (y8_6 : List UInt8) (k_m_r13_text_l6 : (List UInt8) → Int → Int → Option ((List UInt8) × Int)) : Option ((List UInt8) × Int) :=
  m_r13_text_j15 r62_9 x16_0 y10_6 y8_6 k_m_r13_text_l6 r62_9.1
def m_r13_text_l6 (p0 : (List GNode)) (x16_0 : GNode) (k_rec : (List GNode) → Int → Option ((List UInt8) × Int)) : Nat → (List UInt8) → Int → Int → Option ((List UInt8) × Int)
  | 0, _, _, _ => none
  | fu_6 + 1, y8_6, y9_6, y10_6 =>
    Option.bind (m_r13_Kids x16_0) fun r50_7 =>
    cond (decide (y10_6 < r50_7))
    (Option.bind (geti p0 y9_6) fun x56_8 =>
    Option.bind (k_rec p0 y9_6) fun r62_9 =>
    cond (decide (((x16_0.Kind.toNat : Nat) : Int) = 1))
    (cond (decide (((x56_8.Kind.toNat : Nat) : Int) = 2))
    (Option.bind (app ([40] : List UInt8) r62_9.1) fun t82_13 =>
    Option.bind (app t82_13 ([41] : List UInt8)) fun t83_13 =>
    m_r13_text_j15 r62_9 x16_0 y10_6 y8_6 (fun y8_6 y9_6 y10_6 => m_r13_text_l6 p0 x16_0 k_rec fu_6 y8_6 y9_6 y10_6) t83_13)
    (cond (decide (((x16_0.Kind.toNat : Nat) : Int) = 3))
    (m_r13_text_j11 r62_9 x16_0 x56_8 y10_6 y8_6 (fun y8_6 y9_6 y10_6 => m_r13_text_l6 p0 x16_0 k_rec fu_6 y8_6 y9_6 y10_6))
    (m_r13_text_j12 r62_9 x16_0 y10_6 y8_6 (fun y8_6 y9_6 y10_6 => m_r13_text_l6 p0 x16_0 k_rec fu_6 y8_6 y9_6 y10_6))))
    (cond (decide (((x16_0.Kind.toNat : Nat) : Int) = 3))
    (m_r13_text_j11 r62_9 x16_0 x56_8 y10_6 y8_6 (fun y8_6 y9_6 y10_6 => m_r13_text_l6 p0 x16_0 k_rec fu_6 y8_6 y9_6 y10_6))
    (m_r13_text_j12 r62_9 x16_0 y10_6 y8_6 (fun y8_6 y9_6 y10_6 => m_r13_text_l6 p0 x16_0 k_rec fu_6 y8_6 y9_6 y10_6))))
    (cond (decide (((x16_0.Kind.toNat : Nat) : Int) = 3))
    (Option.bind (m_r13_times x16_0.Lo x16_0.Hi) fun r109_25 =>
    Option.bind (app y8_6 r109_25) fun t110_25 =>
    some (t110_25, y9_6))
    (some (y8_6, y9_6)))
def m_r13_text : Nat → (List GNode) → Int → Option ((List UInt8) × Int)
  | 0, _, _ => none
  | fuR + 1, p0, p1 =>
    Option.bind (geti p0 p1) fun x16_0 =>
    cond (decide ((4 : Int) ≤ ((x16_0.Kind.toNat : Nat) : Int)))
    (Option.bind (app x16_0.Var ([58] : List UInt8)) fun t23_1 =>
    Option.bind (app t23_1 x16_0.Type_) fun t26_1 =>
    cond (decide (((x16_0.Kind.toNat : Nat) : Int) = 5))
    (Option.bind (app ([33] : List UInt8) t26_1) fun t31_2 =>
    m_r13_text_j3 p1 x16_0 t31_2)
    (m_r13_text_j3 p1 x16_0 t26_1))
    (m_r13_text_l6 p0 x16_0 (fun p0 p1 => m_r13_text fuR p0 p1) 1152921504606846976 ([] : List UInt8) (IntKind.i64.wrap (p1 + 1)) 0)

def m_r13_Print_j4 (p0 : GPattern) (y3_4 : List UInt8) : Option (List UInt8) :=
  Option.bind (app y3_4 ([32] : List UInt8)) fun t29_5 =>
  Option.bind (m_r13_Word p0.Mode) fun r32_5 =>
  Option.bind (app t29_5 r32_5) fun t33_5 =>
  some t33_5
def m_r13_Print (p0 : GPattern) : Option (List UInt8) :=
  Option.bind (m_r13_Check p0) fun r6_0 =>
  cond (decide (r6_0 ≠ 0))
  (some ([] : List UInt8))
  (Option.bind (m_r13_text 1152921504606846976 p0.Body 0) fun r11_1 =>
  Option.bind (app r11_1.1 ([32, 119, 105, 116, 104, 105, 110, 32] : List UInt8)) fun t15_2 =>
  Option.bind (m_r13_number p0.Within) fun r18_2 =>
  Option.bind (app t15_2 r18_2) fun t19_2 =>
  cond (decide (p0.By ≠ ([] : List UInt8)))
  (Option.bind (app t19_2 ([32, 98, 121, 32] : List UInt8)) fun t24_3 =>
  Option.bind (app t24_3 p0.By) fun t27_3 =>
  m_r13_Print_j4 p0 t27_3)
  (m_r13_Print_j4 p0 t19_2))

def m_r11_Same_l1 (p0 : (List GNode_)) (p1 : (List GNode_)) : Nat → Int → Option Bool
  | 0, _ => none
  | fu_1 + 1, y5_1 =>
    cond (decide (y5_1 < ((List.length p0 : Nat) : Int)))
    (Option.bind (geti p0 y5_1) fun x19_3 =>
    Option.bind (geti p1 y5_1) fun x23_3 =>
    Option.bind (some ((!(decide (((x19_3.Kind.toNat : Nat) : Int) = ((x23_3.Kind.toNat : Nat) : Int)) && (decide (((x19_3.Op.toNat : Nat) : Int) = ((x23_3.Op.toNat : Nat) : Int)) && (decide (x19_3.Var = x23_3.Var) && (decide (x19_3.Name = x23_3.Name) && ((decide (((x19_3.Val.Kind.toNat : Nat) : Int) = ((x23_3.Val.Kind.toNat : Nat) : Int)) && (decide (x19_3.Val.N = x23_3.Val.N) && (decide (x19_3.Val.Bits = x23_3.Val.Bits) && (decide (x19_3.Val.Text = x23_3.Val.Text) && true)))) && true)))))))) fun v25_3 =>
    cond v25_3
    (some false)
    (m_r11_Same_l1 p0 p1 fu_1 (IntKind.i64.wrap (y5_1 + 1))))
    (some true)
def m_r11_Same (p0 : (List GNode_)) (p1 : (List GNode_)) : Option Bool :=
  cond (decide (((List.length p0 : Nat) : Int) ≠ ((List.length p1 : Nat) : Int)))
  (some false)
  (m_r11_Same_l1 p0 p1 1152921504606846976 0)

def m_r13_Same_j1 : Option Bool :=
  some false
def m_r13_Same_j6 : Option Bool :=
  some false
def m_r13_Same_l2 (p0 : GPattern) (p1 : GPattern) : Nat → Int → Option Bool
  | 0, _ => none
  | fu_2 + 1, y5_2 =>
    cond (decide (y5_2 < ((List.length p0.Body : Nat) : Int)))
    (Option.bind (geti p0.Body y5_2) fun x46_4 =>
    Option.bind (geti p1.Body y5_2) fun x51_4 =>
    cond (decide (((x46_4.Kind.toNat : Nat) : Int) ≠ ((x51_4.Kind.toNat : Nat) : Int)))
    (m_r13_Same_j6 )
    (cond (decide (x46_4.Kids ≠ x51_4.Kids))
    (m_r13_Same_j6 )
    (cond (decide (x46_4.Lo ≠ x51_4.Lo))
    (m_r13_Same_j6 )
    (cond (decide (x46_4.Hi ≠ x51_4.Hi))
    (m_r13_Same_j6 )
    (cond (decide (x46_4.Var ≠ x51_4.Var))
    (m_r13_Same_j6 )
    (cond (decide (x46_4.Type_ ≠ x51_4.Type_))
    (m_r13_Same_j6 )
    (Option.bind (m_r11_Same x46_4.Test x51_4.Test) fun r98_5 =>
    cond (!r98_5)
    (some false)
    (m_r13_Same_l2 p0 p1 fu_2 (IntKind.i64.wrap (y5_2 + 1))))))))))
    (some true)
def m_r13_Same (p0 : GPattern) (p1 : GPattern) : Option Bool :=
  cond (decide (p0.Within ≠ p1.Within))
  (m_r13_Same_j1 )
  (cond (decide (p0.By ≠ p1.By))
  (m_r13_Same_j1 )
  (cond (decide (((p0.Mode.toNat : Nat) : Int) ≠ ((p1.Mode.toNat : Nat) : Int)))
  (m_r13_Same_j1 )
  (cond (decide (((List.length p0.Body : Nat) : Int) ≠ ((List.length p1.Body : Nat) : Int)))
  (some false)
  (m_r13_Same_l2 p0 p1 1152921504606846976 0))))

def m_w13_ShapeTells_l4 (p0 : GArr2_GPattern) (p1 : Int) (r21_3 : GPattern) (r24_3 : GPattern) : Nat → Int → Option Bool
  | 0, _ => none
  | fu_4 + 1, y7_4 =>
    cond (decide (y7_4 < ((List.length r21_3.Body : Nat) : Int)))
    (Option.bind (m_shape_Size r21_3.Body y7_4) fun r35_6 =>
    Option.bind (m_r13_Size p0.a0.Body y7_4) fun r40_6 =>
    cond (decide (r35_6 ≠ r40_6))
    (some false)
    (m_w13_ShapeTells_l4 p0 p1 r21_3 r24_3 fu_4 (IntKind.i64.wrap (y7_4 + 1))))
    (Option.bind (m_shape_Check r21_3) fun r43_7 =>
    Option.bind (m_r13_Check p0.a0) fun r46_7 =>
    cond (decide (r43_7 = r46_7))
    (Option.bind (m_shape_Print r21_3) fun r50_7 =>
    Option.bind (m_r13_Print p0.a0) fun r53_7 =>
    cond (decide (r50_7 = r53_7))
    (Option.bind (m_shape_Size r21_3.Body p1) fun r60_7 =>
    Option.bind (m_r13_Size p0.a0.Body p1) fun r65_7 =>
    cond (decide (r60_7 = r65_7))
    (Option.bind (m_shape_Word p0.a0.Mode) fun r72_7 =>
    Option.bind (m_r13_Word p0.a0.Mode) fun r76_7 =>
    cond (decide (r72_7 = r76_7))
    (Option.bind (m_shape_Same r21_3 r24_3) fun r82_7 =>
    Option.bind (m_r13_Same p0.a0 p0.a1) fun r87_7 =>
    cond (decide (r82_7 = r87_7))
    (Option.bind m_w13_awake fun r91_7 =>
    some r91_7)
    (some false))
    (some false))
    (some false))
    (some false))
    (some false))
def m_w13_ShapeTells (p0 : GArr2_GPattern) (p1 : Int) : Option Bool :=
  Option.bind (m_w13_Over p0.a0) fun r10_0 =>
  cond (decide ((0 : Int) < r10_0))
  (Option.bind m_w13_awake fun r18_1 =>
  some r18_1)
  (Option.bind (m_w13_Over p0.a1) fun r15_0 =>
  cond (decide ((0 : Int) < r15_0))
  (Option.bind m_w13_awake fun r18_2 =>
  some r18_2)
  (Option.bind (m_w13_Own p0.a0) fun r21_3 =>
  Option.bind (m_w13_Own p0.a1) fun r24_3 =>
  m_w13_ShapeTells_l4 p0 p1 r21_3 r24_3 1152921504606846976 0))

end Go.Proofs.Ytdpmojhejidhiaa.K
