/- What lift.py's models and proofs are made of: partial operations, encodings of typed data, steps of a walk. -/
import Derived.Test.YtdpmojhejidhiaaAs
import Derived.Test.YtdpmojhejidhiaaProg
namespace Go.Proofs.Ytdpmojhejidhiaa.K
open Go.RowKit Go.Lib
set_option linter.unusedVariables false
set_option linter.unusedSimpArgs false

/-- Short names for what stands in states. -/
abbrev A.i (n : Int) : A := .d (.lit (.int .i64 n))
abbrev A.y (b : UInt8) : A := .d (byteD b)
abbrev A.b (b : Bool) : A := .d (.lit (.bool b))
/-! ### what models are made of -/
/-- An element, by a whole number. -/
def geti {α : Type} (l : List α) (i : Int) : Option α := if 0 ≤ i then l[i.toNat]? else none
/-- Two lists side by side, if they are not too long. -/
def app {α : Type} (l r : List α) : Option (List α) := if l.length + r.length ≤ 1000000000 then some (l ++ r) else none
/-- The part from a up to b. -/
def cut {α : Type} (l : List α) (a b : Int) : Option (List α) := if 0 ≤ a ∧ a ≤ b ∧ b ≤ (l.length : Int) then some ((l.drop a.toNat).take (b.toNat - a.toNat)) else none
/-- r laid over the begin of l. -/
def cpy {α : Type} (l r : List α) : Option (List α) := if r.length ≤ l.length then some (r ++ l.drop r.length) else none
def mkl {α : Type} (n : Int) (z : α) : Option (List α) := if 0 ≤ n ∧ n ≤ 1000000000 then some (List.replicate n.toNat z) else none
def mkc {α : Type} (n c : Int) (z : α) : Option (List α) := if 0 ≤ n ∧ n ≤ c ∧ c ≤ 1000000000 then some (List.replicate n.toNat z) else none
def chk {α : Type} (p : Prop) [Decidable p] (x : Option α) : Option α := if p then x else none
def toS (l : List UInt8) : ByteArray := ⟨l.toArray⟩
abbrev A.s (l : List UInt8) : A := .d (.lit (.string (toS l)))
abbrev A.l {α : Type} (enc : α → List D) (l : List α) : A := .d (.sl l.length (flatD enc l))
def toU8 (n : Int) : UInt8 := UInt8.ofNat (n % 256).toNat
/-- Texts' order. -/
def ltS (a b : List UInt8) : Bool := Op.bytesLess a b
def gtS (a b : List UInt8) : Bool := !Op.bytesLess a b && !a == b
def leS (a b : List UInt8) : Bool := Op.bytesLess a b || a == b
section
variable {α β : Type} {r : β}
theorem bnd {a : Option α} {f : α → Option β} (h : Option.bind a f = some r) : ∃ x, a = some x ∧ f x = some r := by
  cases a with
  | none => cases h
  | some x => exact ⟨x, rfl, h⟩
theorem cT {b : Bool} {x y : Option β} (hb : b = true) (h : cond b x y = some r) : x = some r := by rw [hb] at h; exact h
theorem cF {b : Bool} {x y : Option β} (hb : b = false) (h : cond b x y = some r) : y = some r := by rw [hb] at h; exact h
theorem tf_ (b : Bool) : b = true ∨ b = false := by cases b <;> simp
theorem chk_some {p : Prop} [Decidable p] {x : Option β} (h : chk p x = some r) : p ∧ x = some r := by
  unfold chk at h
  split at h
  · exact ⟨‹_›, h⟩
  · cases h
variable {l s : List α} {x : α} {i a b n c : Int}
theorem geti_some (h : geti l i = some x) : i = (i.toNat : Int) ∧ l[i.toNat]? = some x := by
  unfold geti at h
  split at h
  · exact ⟨by omega, h⟩
  · cases h
theorem getlt {k : Nat} (h : l[k]? = some x) : k < l.length := (List.getElem?_eq_some_iff.1 h).1
theorem app_some {x : List α} (h : app l s = some x) : x = l ++ s ∧ l.length + s.length ≤ 1000000000 := by
  unfold app at h
  split at h
  · cases h; exact ⟨rfl, ‹_›⟩
  · cases h
theorem cut_some {x : List α} (h : cut l a b = some x) : a = (a.toNat : Int) ∧ b = (b.toNat : Int) ∧ a.toNat ≤ b.toNat ∧ b.toNat ≤ l.length ∧ x = (l.drop a.toNat).take (b.toNat - a.toNat) := by
  unfold cut at h
  split at h
  · cases h; refine ⟨by omega, by omega, by omega, by omega, rfl⟩
  · cases h
theorem cpy_some {x : List α} (h : cpy l s = some x) : x = s ++ l.drop s.length ∧ s.length ≤ l.length := by
  unfold cpy at h
  split at h
  · cases h; exact ⟨rfl, ‹_›⟩
  · cases h
theorem mk_some {z : α} {x : List α} (h : mkl n z = some x) : n = (n.toNat : Int) ∧ n.toNat ≤ 1000000000 ∧ x = List.replicate n.toNat z := by
  unfold mkl at h
  split at h
  · cases h; exact ⟨by omega, by omega, rfl⟩
  · cases h
theorem mkc_some {z : α} {x : List α} (h : mkc n c z = some x) : n = (n.toNat : Int) ∧ c = (c.toNat : Int) ∧ n.toNat ≤ c.toNat ∧ c.toNat ≤ 1000000000 ∧ x = List.replicate n.toNat z := by
  unfold mkc at h
  split at h
  · cases h; exact ⟨by omega, by omega, by omega, by omega, rfl⟩
  · cases h
theorem nil_app {l r : List α} (hm : (Option.bind (app [] l) fun a => some a) = some r) (h : l = []) : [] = r := by
  subst h
  obtain ⟨x, hx, hm⟩ := bnd hm
  cases hm
  exact (app_some hx).1.symm
theorem sh_le {q : Int} {n : Nat} (h : q ≤ (n : Int)) : q.toNat ≤ n := by omega
theorem sh_eq {q : Int} (h : 0 ≤ q) : q = (q.toNat : Int) := by omega
end
theorem str_max {l : List UInt8} (h : l.length ≤ 1000000000) : (toS l).size ≤ maxLen := by
  show l.length ≤ maxLen
  unfold maxLen; omega
theorem app_bytes {n k by_ : Nat} (h : n + k ≤ 1000000000) (hb : by_ ≤ 140000) : (n + k) * by_ ≤ 140737488355328 := by
  have := Nat.mul_le_mul h hb; omega
theorem app_bytesN {α : Type} {k by_ : Nat} (h : ([] : List α).length + k ≤ 1000000000) (hb : by_ ≤ 140000) : k * by_ ≤ 140737488355328 := by
  have := Nat.mul_le_mul (show k ≤ 1000000000 by simpa using h) hb; omega
theorem app_str {n : Nat} {s : List UInt8} (h : n + s.length ≤ 1000000000) : n + (toS s).size ≤ 140737488355328 := by
  show n + s.length ≤ _
  omega

/-! ### typed data as cells -/
def encI (k : IntKind) (n : Int) : List D := [.lit (.int k n)]
def encU8 (b : UInt8) : List D := [byteD b]
def encB (b : Bool) : List D := [.lit (.bool b)]
def encS (l : List UInt8) : List D := [.lit (.string (toS l))]
def encL {α : Type} (enc : α → List D) (l : List α) : List D := [.sl l.length (flatD enc l)]
theorem encI_len {k : IntKind} (n : Int) : (encI k n).length = 1 := rfl
theorem encU8_len (b : UInt8) : (encU8 b).length = 1 := rfl
theorem encB_len (b : Bool) : (encB b).length = 1 := rfl
theorem encS_len (l : List UInt8) : (encS l).length = 1 := rfl
theorem encL_len {α : Type} {enc : α → List D} (l : List α) : (encL enc l).length = 1 := rfl
theorem encI_plain {k : IntKind} (n : Int) : ∀ d ∈ encI k n, d.Plain := by simp [encI, D.Plain]
theorem encU8_plain (b : UInt8) : ∀ d ∈ encU8 b, d.Plain := by simp [encU8, byteD, D.Plain]
theorem encB_plain (b : Bool) : ∀ d ∈ encB b, d.Plain := by simp [encB, D.Plain]
theorem encS_plain (b : List UInt8) : ∀ d ∈ encS b, d.Plain := by simp [encS, D.Plain]
theorem flatU8 (l : List UInt8) : flatD encU8 l = bytesD l := by
  induction l with
  | nil => rfl
  | cons x l ih => rw [flatD_cons, ih]; rfl
theorem flatU8_take {l : List UInt8} : ((flatD encU8 l).drop 0).take l.length = bytesD l := by rw [flatU8]; exact byt_all'
theorem flat_plain {α : Type} {enc : α → List D} (h : ∀ a, ∀ d ∈ enc a, d.Plain) {e sz n : Nat} {l : List α} : (Blk.arr e sz n (flatD enc l)).Plain := by
  show ∀ x ∈ flatD enc l, x.Plain
  intro x hx
  obtain ⟨a, _, h2⟩ := List.mem_flatMap.1 hx
  exact h a x h2
theorem plain_nil : ∀ b ∈ ([] : List Blk), b.Plain := fun b hb => by cases hb
theorem plain_cons {b : Blk} {l : List Blk} (h : b.Plain) (hl : ∀ b ∈ l, b.Plain) : ∀ c ∈ b :: l, c.Plain := fun c hc => by
  rcases List.mem_cons.1 hc with rfl | hc
  · exact h
  · exact hl c hc
theorem lit_tf {b c : Bool} (h : b = c) : A.d (.lit (.bool b)) = .d (.lit (.bool c)) := by rw [h]
theorem lit_str {a b : ByteArray} (h : a = b) : A.d (.lit (.string a)) = .d (.lit (.string b)) := by rw [h]
theorem toS_inj {a b : List UInt8} : toS a = toS b ↔ a = b := by simp [toS]
theorem toS_app (a b : List UInt8) : toS a ++ toS b = toS (a ++ b) := by
  ext1; simp [toS]
theorem toS_cut {l x : List UInt8} {a b : Nat} (h : x = (l.drop a).take (b - a)) : (toS l).extract a b = toS x := by
  subst h
  ext1
  rw [ByteArray.data_extract]
  apply Array.ext'
  rw [Array.toList_extract, List.extract_eq_take_drop]; rfl
theorem u8w (n : Int) : IntKind.u8.wrap n = ((toU8 n).toNat : Int) := by
  have h : (UInt8.ofNat (n % 256).toNat).toNat = (n % 256).toNat % 256 := UInt8.toNat_ofNat
  unfold toU8
  rw [h, K.wrap_u8]
  omega
theorem drop_two {α : Type} (a b : Nat) (l : List D) : A.d (.ref (List.drop b (List.drop a l))) = .d (.ref (List.drop (a + b) l)) := by rw [List.drop_drop]
section
variable {α : Type} {enc : α → List D} {sz : Nat} {l : List α} {i k : Nat} {x y : α} {cs : List D}
theorem flat_split (h : ∀ a, (enc a).length = sz) (hx : l[i]? = some x) : flatD enc l = flatD enc (l.take i) ++ (enc x ++ flatD enc (l.drop (i + 1))) ∧ (flatD enc (l.take i)).length = i * sz := by
  have hi := getlt hx
  have e : l = l.take i ++ (x :: l.drop (i + 1)) := by
    conv => lhs; rw [← List.take_append_drop i l, List.drop_eq_getElem_cons hi]
    rw [(List.getElem?_eq_some_iff.1 hx).2]
  refine ⟨?_, by rw [flatD_length h, List.length_take, Nat.min_eq_left (by omega)]⟩
  conv => lhs; rw [e]
  rw [flatD_append, flatD_cons]
theorem flat_fitk (h : ∀ a, (enc a).length = sz) (hi : i < l.length) (hk : k + cs.length ≤ sz) : i * sz + k + cs.length ≤ (flatD enc l).length := by
  rw [flatD_length h]
  have := Nat.mul_le_mul_right sz (show i + 1 ≤ l.length from hi)
  rw [Nat.add_mul] at this; omega
theorem flat_fit0 (h : ∀ a, (enc a).length = sz) (hi : i < l.length) (hk : cs.length ≤ sz) : i * sz + cs.length ≤ (flatD enc l).length := by
  have := flat_fitk (k := 0) (cs := cs) h hi (by omega)
  omega
theorem flat_setk (h : ∀ a, (enc a).length = sz) (hx : l[i]? = some x) (hy : putC (enc x) k cs = enc y) (hk : k + cs.length ≤ sz) : putC (flatD enc l) (i * sz + k) cs = flatD enc (l.set i y) := by
  obtain ⟨e, hl⟩ := flat_split h hx
  have hi := getlt hx
  have e2 : l.set i y = l.take i ++ (y :: l.drop (i + 1)) := by rw [List.set_eq_take_append_cons_drop, if_pos hi]
  rw [e2, flatD_append, flatD_cons, ← hy, e]
  have hxl := h x
  generalize flatD enc (l.take i) = a at hl ⊢
  generalize flatD enc (l.drop (i + 1)) = b
  unfold putC
  rw [List.take_append, List.drop_append, List.take_of_length_le (show a.length ≤ i * sz + k by omega), List.drop_of_length_le (show a.length ≤ i * sz + k + cs.length by omega), List.nil_append, hl]
  rw [show i * sz + k - i * sz = k by omega, show i * sz + k + cs.length - i * sz = k + cs.length by omega, List.take_append_of_le_length (by omega), List.drop_append_of_le_length (by omega)]
  simp only [List.append_assoc]
theorem flat_setk0 (h : ∀ a, (enc a).length = sz) (hx : l[i]? = some x) (hy : putC (enc x) 0 cs = enc y) (hk : 0 + cs.length ≤ sz) : putC (flatD enc l) (i * sz) cs = flatD enc (l.set i y) := flat_setk (k := 0) h hx hy hk
theorem flat_rep {zs : List D} {n : Nat} (h : zs = enc x) : (List.replicate n zs).flatten = flatD enc (List.replicate n x) := by
  subst h
  rw [flatD, List.flatMap, List.map_replicate]
theorem flat_cut (h : ∀ a, (enc a).length = sz) {a b : Nat} : ((flatD enc l).drop (a * sz)).take ((b - a) * sz) = flatD enc ((l.drop a).take (b - a)) := by
  rw [flat_dropL h, flat_take h]
variable {r z : List α}
theorem cpy_len (e : z = r ++ l.drop r.length) (h : r.length ≤ l.length) : l.length = z.length := by rw [e]; simp; omega
theorem cpy_put (h : ∀ a, (enc a).length = sz) (hl : r.length ≤ l.length) : putC (flatD enc l) 0 (flatD enc r) = flatD enc (r ++ l.drop r.length) := by
  unfold putC
  rw [flatD_append, List.take_zero, List.nil_append, Nat.zero_add, flatD_length h, flat_dropL h]
theorem cpy_fit (h : ∀ a, (enc a).length = sz) (hl : r.length ≤ l.length) : 0 + (flatD enc r).length ≤ (flatD enc l).length := by
  rw [flatD_length h, flatD_length h]
  have := Nat.mul_le_mul_right sz hl; omega
theorem cut_len0 {b : Int} (e : z = (l.drop (Int.toNat 0)).take (b.toNat - Int.toNat 0)) (h : b.toNat ≤ l.length) : b.toNat = z.length := by
  rw [e]
  rw [List.length_take, List.length_drop]
  simp; omega
theorem cut_take0 (h : ∀ a, (enc a).length = sz) {b : Int} (e : z = (l.drop (Int.toNat 0)).take (b.toNat - Int.toNat 0)) : (flatD enc l).take (b.toNat * sz) = flatD enc z := by
  rw [e, flat_take h]
  congr 1
end
theorem cpy_putS {l r : List UInt8} (h : r.length ≤ l.length) : putC (flatD encU8 l) 0 (bytesD (toS r).data.toList) = flatD encU8 (r ++ l.drop r.length) := by
  rw [← cpy_put encU8_len h, flatU8 r]; rfl
theorem cpy_fitS {l r : List UInt8} (h : r.length ≤ l.length) : 0 + (toS r).size ≤ (flatD encU8 l).length := by
  rw [flatD_length encU8_len]
  show 0 + r.length ≤ _
  omega
theorem wrap_of_u8 {k : IntKind} (hk : k ≠ .i8) (b : UInt8) : k.wrap ((b.toNat : Nat) : Int) = ((b.toNat : Nat) : Int) := by
  have := b.toNat_lt
  cases k <;> first | exact absurd rfl hk | (simp [IntKind.wrap, IntKind.bits, IntKind.signed]; omega)
end Go.Proofs.Ytdpmojhejidhiaa.K
