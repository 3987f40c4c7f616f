/- Merged: Psrs Psrt. -/
import Derived.Test.YtdpmojhejidhiaaPShapeTrees
import Derived.Test.YtdpmojhejidhiaaMrd
namespace Go.Proofs.Ytdpmojhejidhiaa.K
open Go.RowKit Go.Lib
set_option linter.unusedVariables false
set_option linter.unusedSimpArgs false
inductive Lb where
  | leaf (neg : Bool) (v t : Bts) (T : Option RT)
  | rep (tm : Bts)
  | seq
  | alt
inductive RF where
  | nil
  | cons (b : Lb) (k r : RF)
def RF.app : RF → RF → RF
  | .nil, s => s
  | .cons b k r, s => .cons b k (r.app s)
def RF.len : RF → Nat
  | .nil => 0
  | .cons b k r => r.len + 1
def pLf (s : Bts) : Bts × Bts × Option RT × Bts :=
  match ((s.dropWhile tailc).drop 1).dropWhile tailc with
  | 91 :: r => (s.takeWhile tailc, ((s.dropWhile tailc).drop 1).takeWhile tailc, some (pOr 100 r).1, (pOr 100 r).2.drop 1)
  | r => (s.takeWhile tailc, ((s.dropWhile tailc).drop 1).takeWhile tailc, none, r)
def brc (c : UInt8) : Bool := decide (c ≠ 125)
def pT (t : RF) (s : Bts) : RF × Bts := match s with
  | 43 :: r => (.cons (.rep [43]) t .nil, r)
  | 42 :: r => (.cons (.rep [42]) t .nil, r)
  | 63 :: r => (.cons (.rep [63]) t .nil, r)
  | 123 :: r => (.cons (.rep (123 :: (r.takeWhile brc ++ [125]))) t .nil, (r.dropWhile brc).drop 1)
  | s => (t, s)
def pU (A : Bts → RF × Bts) (s : Bts) : RF × Bts := match s with
  | 40 :: r => pT (A r).1 ((A r).2.drop 1)
  | 33 :: r => (.cons (.leaf true (pLf r).1 (pLf r).2.1 (pLf r).2.2.1) .nil .nil, (pLf r).2.2.2)
  | s => pT (.cons (.leaf false (pLf s).1 (pLf s).2.1 (pLf s).2.2.1) .nil .nil) (pLf s).2.2.2
def wrp (b : Lb) (f : RF) : RF := if f.len = 1 then f else .cons b f .nil
def sLoop (U : Bts → RF × Bts) : Nat → RF → Bts → RF × Bts
  | 0, a, s => (a, s)
  | fu + 1, a, s => match s with
    | 59 :: 32 :: r => sLoop U fu (a.app (U r).1) (U r).2
    | s => (a, s)
def pS (U : Bts → RF × Bts) (s : Bts) : RF × Bts := (wrp .seq (sLoop U 50 (U s).1 (U s).2).1, (sLoop U 50 (U s).1 (U s).2).2)
def xLoop (S : Bts → RF × Bts) : Nat → RF → Bts → RF × Bts
  | 0, a, s => (a, s)
  | fu + 1, a, s => match s with
    | 32 :: 124 :: 32 :: r => xLoop S fu (a.app (S r).1) (S r).2
    | s => (a, s)
def pX (S : Bts → RF × Bts) (s : Bts) : RF × Bts := (wrp .alt (xLoop S 50 (S s).1 (S s).2).1, (xLoop S 50 (S s).1 (S s).2).2)
def pA : Nat → Bts → RF × Bts
  | 0, s => (.nil, s)
  | fu + 1, s => pX (pS (pU (pA fu))) s
def lab (n : GNode) : Lb := if kS n = 1 then .seq else if kS n = 2 then .alt else if kS n = 3 then .rep (timS n) else .leaf (decide (kS n = 5)) n.Var n.Type_ (if 0 < n.Test.length then some (pOr 100 (prT n.Test ++ [93])).1 else none)
def SF.raw : SF → RF
  | .nil => .nil
  | .cons n k r => .cons (lab n) k.raw r.raw
theorem raw_len : ∀ t : SF, t.raw.len = t.len
  | .nil => rfl
  | .cons n k r => by
    show r.raw.len + 1 = r.len + 1
    rw [raw_len r]
/-- What follows a unit; no more of a Seq; no more of an Alt. -/
def stU (x : Bts) : Prop := ∀ c r, x = c :: r → c = 59 ∨ c = 32 ∨ c = 41
def noSq (x : Bts) : Prop := ∀ r, x ≠ 59 :: 32 :: r
def noAl (x : Bts) : Prop := ∀ r, x ≠ 32 :: 124 :: 32 :: r
/-- What follows a leaf. -/
def stF (x : Bts) : Prop := ∀ c r, x = c :: r → tailc c = false ∧ c ≠ 91
theorem stU_F {x : Bts} (h : stU x) : stF x := fun c r e => by rcases h c r e with rfl | rfl | rfl <;> exact ⟨by decide, by decide⟩
theorem span_tail {w x : Bts} (h : ∀ c ∈ w, tailc c = true) (hx : ∀ c r, x = c :: r → tailc c = false) : (w ++ x).takeWhile tailc = w ∧ (w ++ x).dropWhile tailc = x := by
  induction w with
  | nil =>
    cases x with
    | nil => exact ⟨rfl, rfl⟩
    | cons c r => have := hx c r rfl; simp [this]
  | cons c w ih =>
    have := ih fun d hd => h d (by simp [hd])
    simp [h c (by simp), this]
/-- A test's text is read back. -/
theorem tst_ok {l : List GNode_} (hl : l.length ≤ 40) (hS : nS l) (h0 : 0 < l.length) (hc : chkT l = 0) : ∃ t : PT, l = t.flat ∧ t.ok 16 0 ∧ ∀ x, pOr 100 (prT l ++ 93 :: x) = (t.raw, 93 :: x) := by
  rcases chkT_tree hc with rfl | ⟨t, rfl, ht, h30⟩
  · simp at h0
  · refine ⟨t, rfl, ht, fun x => ?_⟩
    have hp : prT t.flat = t.str := by
      unfold prT
      have hp := t.flat_pos
      have : m_pred_Print t.flat = some t.str := by
        unfold m_pred_Print
        rw [decide_eq_false (by omega), cond_false, pcheck_ok (nB_of (by omega) hS), obind_some, decide_eq_false (by simp [hc]), cond_false]
        rw [show m_pred_printer_tree 1152921504606846976 (GTchecker.mk t.flat 0) = _ from ptext_ok (l := t.flat) (by omega) hS (t := t) (a := 0) (fu := 1152921504606846976) (r := []) ht (by simp) (by omega)]
        rfl
      rw [this]; rfl
    rw [hp]
    exact (rdT ht hl).D hl (fu := 99) (by omega) (fun c r e => by cases e; decide) ⟨fun r e => (by cases e), fun r e => (by cases e)⟩ (fun r e => by cases e) (fun r e => by cases e)
theorem leaf_need {n : GNode} (hk : leaB n = true) (h : lacS n = false) : nameB n.Var = true ∧ nameB n.Type_ = true ∧ chkT n.Test = 0 := by
  have k45 : kS n = 4 ∨ kS n = 5 := by
    unfold leaB at hk
    rcases (Bool.or_eq_true _ _).mp hk with q | q
    · exact .inl (of_decide_eq_true q)
    · exact .inr (of_decide_eq_true q)
  unfold lacS lisB at h
  have e1 : decide (kS n = 1) = false := decide_eq_false (by omega)
  have e2 : decide (kS n = 2) = false := decide_eq_false (by omega)
  rw [e1, e2, if_neg (by decide), if_neg (by omega)] at h
  simpa [and_assoc] using h
theorem pLf_ok {n : GNode} (hk : leaB n = true) (h : lacS n = false) (ht : n.Test.length ≤ 40) (hS : nS n.Test) {x : Bts} (hx : stF x) :
    pLf (n.Var ++ [58] ++ n.Type_ ++ (if 0 < n.Test.length then [91] ++ prT n.Test ++ [93] else []) ++ x) = (n.Var, n.Type_, (if 0 < n.Test.length then some (pOr 100 (prT n.Test ++ [93])).1 else none), x) := by
  obtain ⟨h1, h2, h3⟩ := leaf_need hk h
  have a1 := (name_all h1).2.1
  have a2 := (name_all h2).2.1
  have key : ∀ y : Bts, (∀ c r, y = c :: r → tailc c = false) → (n.Var ++ [58] ++ n.Type_ ++ y).takeWhile tailc = n.Var ∧ ((n.Var ++ [58] ++ n.Type_ ++ y).dropWhile tailc).drop 1 = n.Type_ ++ y ∧ (n.Type_ ++ y).takeWhile tailc = n.Type_ ∧ (n.Type_ ++ y).dropWhile tailc = y := fun y hy => by
    have e : n.Var ++ [58] ++ n.Type_ ++ y = n.Var ++ (58 :: (n.Type_ ++ y)) := by simp
    have s1 := span_tail (x := 58 :: (n.Type_ ++ y)) a1 (fun c r e => by cases e; decide)
    have s2 := span_tail (x := y) a2 hy
    rw [e, s1.1, s1.2]
    exact ⟨rfl, rfl, s2.1, s2.2⟩
  by_cases c : 0 < n.Test.length
  · rw [if_pos c, if_pos c]
    obtain ⟨t, e, ok, ht2⟩ := tst_ok ht hS c h3
    have k := key (91 :: (prT n.Test ++ 93 :: x)) (fun c r e => by cases e; decide)
    have e' : n.Var ++ [58] ++ n.Type_ ++ ([91] ++ prT n.Test ++ [93]) ++ x = n.Var ++ [58] ++ n.Type_ ++ (91 :: (prT n.Test ++ 93 :: x)) := by simp
    rw [e']
    unfold pLf
    rw [k.1, k.2.1, k.2.2.1, k.2.2.2]
    show (n.Var, n.Type_, some (pOr 100 (prT n.Test ++ 93 :: x)).1, (pOr 100 (prT n.Test ++ 93 :: x)).2.drop 1) = _
    rw [ht2, show prT n.Test ++ [93] = prT n.Test ++ 93 :: [] from rfl, ht2]; rfl
  · rw [if_neg c, if_neg c, List.append_nil]
    have k := key x (fun c r e => (hx c r e).1)
    unfold pLf
    rw [k.1, k.2.1, k.2.2.1, k.2.2.2]
    cases x with
    | nil => rfl
    | cons d r =>
      have := (hx d r rfl).2
      split
      · rename_i q; exact absurd (List.cons.inj q).1 this
      · rfl
theorem pT_no {t : RF} {x : Bts} (h : stU x) : pT t x = (t, x) := by
  cases x with
  | nil => rfl
  | cons c r => rcases h c r rfl with rfl | rfl | rfl <;> rfl
theorem brc_dig (k : Int) (h1 : 0 ≤ k) (h2 : k ≤ 8) : decS k = [UInt8.ofNat (48 + k.toNat)] := by
  unfold decS
  rw [if_neg (by omega), dec_lt (by omega)]
theorem pT_ok {t : RF} {n : GNode} (h : oftB n = true) (x : Bts) : pT t (timS n ++ x) = (.cons (.rep (timS n)) t .nil, x) := by
  have h := of_decide_eq_true h
  have d1 := brc_dig n.Lo (by omega) (by omega)
  have d2 := brc_dig n.Hi (by omega) (by omega)
  have hb : ∀ d : Nat, d ≤ 8 → brc (UInt8.ofNat (48 + d)) = true := by
    have : ∀ d : Fin 9, brc (UInt8.ofNat (48 + d.1)) = true := by decide
    exact fun d h => this ⟨d, by omega⟩
  have b1 := hb n.Lo.toNat (by omega)
  have b2 := hb n.Hi.toNat (by omega)
  generalize UInt8.ofNat (48 + n.Lo.toNat) = c1 at b1 d1
  generalize UInt8.ofNat (48 + n.Hi.toNat) = c2 at b2 d2
  unfold timS
  rw [d1, d2]
  split
  · rfl
  · split
    · split
      · rfl
      · split
        · rfl
        · show (RF.cons (.rep (123 :: ((c1 :: 44 :: 125 :: x).takeWhile brc ++ [125]))) t .nil, ((c1 :: 44 :: 125 :: x).dropWhile brc).drop 1) = _
          simp [b1, show brc 44 = true from rfl, show brc 125 = false from rfl]
    · split
      · show (RF.cons (.rep (123 :: ((c1 :: 125 :: x).takeWhile brc ++ [125]))) t .nil, ((c1 :: 125 :: x).dropWhile brc).drop 1) = _
        simp [b1, show brc 125 = false from rfl]
      · show (RF.cons (.rep (123 :: ((c1 :: 44 :: c2 :: 125 :: x).takeWhile brc ++ [125]))) t .nil, ((c1 :: 44 :: c2 :: 125 :: x).dropWhile brc).drop 1) = _
        simp [b1, b2, show brc 44 = true from rfl, show brc 125 = false from rfl]
theorem tim_F {n : GNode} (x : Bts) : stF (timS n ++ x) := fun c r e => by
  unfold timS at e
  split at e
  · cases e; exact ⟨by decide, by decide⟩
  · split at e
    · split at e
      · cases e; exact ⟨by decide, by decide⟩
      · split at e
        · cases e; exact ⟨by decide, by decide⟩
        · have := (List.cons.inj (show 123 :: _ = c :: r from e)).1; subst this; exact ⟨by decide, by decide⟩
    · split at e
      · have := (List.cons.inj (show 123 :: _ = c :: r from e)).1; subst this; exact ⟨by decide, by decide⟩
      · have := (List.cons.inj (show 123 :: _ = c :: r from e)).1; subst this; exact ⟨by decide, by decide⟩
/-! ### what the reader does with a tree -/
theorem txt_leaf {a : UInt8} {n : GNode} {ts : List Bts} (h : leaB n = true) : trT a n ts = lefS n := by unfold trT; rw [if_pos h]
theorem tr_one {n : GNode} {a : UInt8} (ha : a.toNat ≠ 3) (ha1 : a.toNat = 1 → kS n ≠ 2) (ts : List Bts) : trT a n ts = trT 0 n ts := by
  unfold trT
  split
  · rfl
  · cases ts with
    | nil => rfl
    | cons x xs =>
      show finT a n _ = finT 0 n _
      unfold finT
      have : (decide (a.toNat = 3) || (decide (a.toNat = 1) && decide (kS n = 2))) = false := by
        rw [decide_eq_false ha, Bool.false_or]
        by_cases q : a.toNat = 1
        · rw [decide_eq_false (ha1 q), Bool.and_false]
        · rw [decide_eq_false q, Bool.false_and]
      rw [this, show (decide ((0 : UInt8).toNat = 3) || decide ((0 : UInt8).toNat = 1) && decide (kS n = 2)) = false from rfl]
theorem tr_par {n : GNode} {a : UInt8} (hl : leaB n = false) (ha : a.toNat = 3 ∨ a.toNat = 1 ∧ kS n = 2) {ts : List Bts} (hts : ts ≠ []) : trT a n ts = par true (trT 0 n ts) := by
  unfold trT
  rw [if_neg (by simp [hl]), if_neg (by simp [hl])]
  cases ts with
  | nil => exact absurd rfl hts
  | cons x xs =>
    show finT a n _ = par true (finT 0 n _)
    unfold finT
    have : (decide (a.toNat = 3) || (decide (a.toNat = 1) && decide (kS n = 2))) = true := by
      rcases ha with q | ⟨q, q'⟩
      · rw [decide_eq_true q]; rfl
      · rw [decide_eq_true q, decide_eq_true q']; simp
    rw [this, show (decide ((0 : UInt8).toNat = 3) || decide ((0 : UInt8).toNat = 1) && decide (kS n = 2)) = false from rfl]
    rfl
/-- Texts behind the first. -/
def tls (sep : Bts) : List Bts → Bts
  | [] => []
  | x :: xs => sep ++ x ++ tls sep xs
theorem join_tls (sep : Bts) : ∀ (xs : List Bts) (x : Bts), joinL sep x xs = x ++ tls sep xs
  | [], x => by simp [joinL, tls]
  | y :: ys, x => by
    have := join_tls sep ys (x ++ (sep ++ y))
    show joinL sep (x ++ (sep ++ y)) ys = _
    rw [this]; simp [tls]
/-- What the reader does with a tree's text. -/
structure RdS (n : GNode) (k : SF) : Prop where
  U : leaB n = true ∨ kS n = 3 → ∀ fu x, k.flat.length + 1 ≤ fu → stU x → pU (pA fu) (trT 0 n (k.txs n.Kind) ++ x) = (.cons (lab n) k.raw .nil, x)
  S : kS n ≠ 2 → ∀ fu x, k.flat.length + 1 ≤ fu → stU x → noSq x → pS (pU (pA fu)) (trT 0 n (k.txs n.Kind) ++ x) = (.cons (lab n) k.raw .nil, x)
  A : ∀ fu x, k.flat.length + 1 ≤ fu → stU x → noSq x → noAl x → pA (fu + 1) (trT 0 n (k.txs n.Kind) ++ x) = (.cons (lab n) k.raw .nil, x)
theorem sLoop_end {U : Bts → RF × Bts} {fu : Nat} {a : RF} {x : Bts} (h : noSq x) : sLoop U (fu + 1) a x = (a, x) := by
  unfold sLoop
  split
  · rename_i r; exact absurd rfl (h r)
  · rfl
theorem xLoop_end {U : Bts → RF × Bts} {fu : Nat} {a : RF} {x : Bts} (h : noAl x) : xLoop U (fu + 1) a x = (a, x) := by
  unfold xLoop
  split
  · rename_i r; exact absurd rfl (h r)
  · rfl
theorem pS_one {U : Bts → RF × Bts} {s x : Bts} {b : Lb} {k : RF} (h : U s = (.cons b k .nil, x)) (hx : noSq x) : pS U s = (.cons b k .nil, x) := by
  unfold pS
  rw [h, sLoop_end hx]; rfl
theorem pX_one {U : Bts → RF × Bts} {s x : Bts} {b : Lb} {k : RF} (h : U s = (.cons b k .nil, x)) (hx : noAl x) : pX U s = (.cons b k .nil, x) := by
  unfold pX
  rw [h, xLoop_end hx]; rfl
/-- A unit is all that. -/
theorem RdS.of_U {n : GNode} {k : SF} (hk : kS n ≠ 2) (U : ∀ fu x, k.flat.length + 1 ≤ fu → stU x → pU (pA fu) (trT 0 n (k.txs n.Kind) ++ x) = (.cons (lab n) k.raw .nil, x)) : RdS n k :=
  ⟨fun _ => U, fun _ fu x hf h1 h2 => pS_one (U fu x hf h1) h2, fun fu x hf h1 h2 h3 => pX_one (pS_one (U fu x hf h1) h2) h3⟩
theorem RdS.of_S {n : GNode} {k : SF} (hU : ¬ (leaB n = true ∨ kS n = 3)) (S : ∀ fu x, k.flat.length + 1 ≤ fu → stU x → noSq x → pS (pU (pA fu)) (trT 0 n (k.txs n.Kind) ++ x) = (.cons (lab n) k.raw .nil, x)) : RdS n k :=
  ⟨fun h => absurd h hU, fun _ => S, fun fu x hf h1 h2 h3 => pX_one (S fu x hf h1 h2) h3⟩
/-- In brackets. -/
theorem RdS.P {n : GNode} {k : SF} (h : RdS n k) {fu : Nat} (hf : k.flat.length + 2 ≤ fu) (x : Bts) : pU (pA fu) (par true (trT 0 n (k.txs n.Kind)) ++ x) = pT (.cons (lab n) k.raw .nil) x := by
  obtain ⟨fu, rfl⟩ : ∃ f, fu = f + 1 := ⟨fu - 1, by omega⟩
  have e : par true (trT 0 n (k.txs n.Kind)) ++ x = 40 :: (trT 0 n (k.txs n.Kind) ++ 41 :: x) := by simp [par]
  have := h.A fu (41 :: x) (by omega) (fun c r e => by cases e; exact .inr (.inr rfl)) (fun r e => by cases e) (fun r e => by cases e)
  rw [e]
  show pT (pA (fu + 1) (trT 0 n (k.txs n.Kind) ++ 41 :: x)).1 ((pA (fu + 1) (trT 0 n (k.txs n.Kind) ++ 41 :: x)).2.drop 1) = _
  rw [this]; rfl
def RdF : SF → Prop
  | .nil => True
  | .cons n k s => RdS n k ∧ RdF s
/-- A kid of a Seq. -/
theorem kid_seq {n : GNode} {k s : SF} {d fu : Nat} {a : UInt8} (h : RdS n k) (ok : (SF.cons n k s).ok d a) (ha : a.toNat = 1) (hf : k.flat.length + 2 ≤ fu) {x : Bts} (hx : stU x) : pU (pA fu) (trT a n (k.txs n.Kind) ++ x) = (.cons (lab n) k.raw .nil, x) := by
  cases d with
  | zero => exact ok.elim
  | succ d =>
  have hk := of_decide_eq_true ((Bool.and_eq_true _ _).mp ok.1).1
  have hs := ((Bool.and_eq_true _ _).mp ok.1).2
  by_cases q : kS n = 2
  · have hl : leaB n = false := by unfold leaB; rw [q]; rfl
    have hts : k.txs n.Kind ≠ [] := by
      have := kd_more hl ok.1 ok.2.1
      rw [ok.2.2.2.1] at this
      cases k with
      | nil => simp [SF.len] at this
      | cons m kk ss => simp [SF.txs]
    rw [tr_par hl (.inr ⟨ha, q⟩) hts, h.P hf]
    exact pT_no hx
  · have q1 : kS n ≠ 1 := fun c => by
      have hl : lisB n = true := by unfold lisB; rw [c]; rfl
      rw [if_pos hl] at hs
      exact of_decide_eq_true hs (c.trans ha.symm)
    rw [tr_one (by omega) (fun _ => q)]
    refine h.U ?_ fu x (by omega) hx
    by_cases q3 : kS n = 3
    · exact .inr q3
    · left; unfold leaB
      have : kS n = 4 ∨ kS n = 5 := by omega
      rcases this with c | c <;> rw [c] <;> rfl
theorem app_raw : ∀ (a : RF) (s : SF), a.app s.raw = a.app s.raw := fun _ _ => rfl
theorem RF.app_nil : ∀ a : RF, a.app .nil = a
  | .nil => rfl
  | .cons b k r => by
    show RF.cons b k (r.app .nil) = _
    rw [RF.app_nil r]
theorem RF.app_assoc : ∀ a b c : RF, (a.app b).app c = a.app (b.app c)
  | .nil, b, c => rfl
  | .cons x k r, b, c => by
    show RF.cons x k ((r.app b).app c) = RF.cons x k (r.app (b.app c))
    rw [RF.app_assoc r b c]
theorem stU_sq (r : Bts) : stU (59 :: r) := fun c r' e => by cases e; exact .inl rfl
theorem stU_sp (r : Bts) : stU (32 :: r) := fun c r' e => by cases e; exact .inr (.inl rfl)
theorem seq_loop : ∀ {s : SF} {d : Nat} {a : UInt8} {fu fuL : Nat} {acc : RF} {x : Bts}, RdF s → s.ok d a → a.toNat = 1 → s.flat.length + 1 ≤ fu → s.len < fuL → stU x → noSq x → sLoop (pU (pA fu)) fuL acc (tls [59, 32] (s.txs a) ++ x) = (acc.app s.raw, x)
  | .nil, d, a, fu, fuL, acc, x, h, ok, ha, hf, hL, h1, h2 => by
    obtain ⟨fuL, rfl⟩ : ∃ f, fuL = f + 1 := ⟨fuL - 1, by omega⟩
    show sLoop _ (fuL + 1) acc x = (acc.app .nil, x)
    rw [sLoop_end h2, RF.app_nil]
  | .cons n k s, d, a, fu, fuL, acc, x, h, ok, ha, hf, hL, h1, h2 => by
    obtain ⟨fuL, rfl⟩ : ∃ f, fuL = f + 1 := ⟨fuL - 1, by omega⟩
    have hfl : (SF.cons n k s).flat.length = k.flat.length + s.flat.length + 1 := by simp [SF.flat]
    have hst : stU (tls [59, 32] (s.txs a) ++ x) := by
      cases s with
      | nil => exact h1
      | cons m kk ss => exact stU_sq _
    have e : tls [59, 32] ((SF.cons n k s).txs a) ++ x = 59 :: 32 :: (trT a n (k.txs n.Kind) ++ (tls [59, 32] (s.txs a) ++ x)) := by simp [SF.txs, tls]
    have kq := kid_seq (fu := fu) h.1 ok ha (by omega) hst
    have oks : s.ok d a := by
      cases d with
      | zero => exact ok.elim
      | succ d => exact ok.2.2.2.2.2
    rw [e]
    show sLoop _ fuL (acc.app (pU (pA fu) (trT a n (k.txs n.Kind) ++ (tls [59, 32] (s.txs a) ++ x))).1) (pU (pA fu) (trT a n (k.txs n.Kind) ++ (tls [59, 32] (s.txs a) ++ x))).2 = _
    rw [kq]
    show sLoop _ fuL (acc.app (.cons (lab n) k.raw .nil)) (tls [59, 32] (s.txs a) ++ x) = _
    rw [seq_loop h.2 oks ha (by omega) (by simp [SF.len] at hL; omega) h1 h2, RF.app_assoc]; rfl
/-- A kid of an Alt. -/
theorem kid_alt {n : GNode} {k s : SF} {d fu : Nat} {a : UInt8} (h : RdS n k) (ok : (SF.cons n k s).ok d a) (ha : a.toNat = 2) (hf : k.flat.length + 1 ≤ fu) {x : Bts} (hx : stU x) (h2 : noSq x) : pS (pU (pA fu)) (trT a n (k.txs n.Kind) ++ x) = (.cons (lab n) k.raw .nil, x) := by
  cases d with
  | zero => exact ok.elim
  | succ d =>
  have hs := ((Bool.and_eq_true _ _).mp ok.1).2
  have q2 : kS n ≠ 2 := fun c => by
    have hl : lisB n = true := by unfold lisB; rw [c]; rfl
    rw [if_pos hl] at hs
    exact of_decide_eq_true hs (c.trans ha.symm)
  rw [tr_one (by omega) (fun _ => q2)]
  exact h.S q2 fu x hf hx h2
theorem alt_loop : ∀ {s : SF} {d : Nat} {a : UInt8} {fu fuL : Nat} {acc : RF} {x : Bts}, RdF s → s.ok d a → a.toNat = 2 → s.flat.length + 1 ≤ fu → s.len < fuL → stU x → noSq x → noAl x → xLoop (pS (pU (pA fu))) fuL acc (tls [32, 124, 32] (s.txs a) ++ x) = (acc.app s.raw, x)
  | .nil, d, a, fu, fuL, acc, x, h, ok, ha, hf, hL, h1, h2, h3 => by
    obtain ⟨fuL, rfl⟩ : ∃ f, fuL = f + 1 := ⟨fuL - 1, by omega⟩
    show xLoop _ (fuL + 1) acc x = (acc.app .nil, x)
    rw [xLoop_end h3, RF.app_nil]
  | .cons n k s, d, a, fu, fuL, acc, x, h, ok, ha, hf, hL, h1, h2, h3 => by
    obtain ⟨fuL, rfl⟩ : ∃ f, fuL = f + 1 := ⟨fuL - 1, by omega⟩
    have hfl : (SF.cons n k s).flat.length = k.flat.length + s.flat.length + 1 := by simp [SF.flat]
    have hst : stU (tls [32, 124, 32] (s.txs a) ++ x) ∧ noSq (tls [32, 124, 32] (s.txs a) ++ x) := by
      cases s with
      | nil => exact ⟨h1, h2⟩
      | cons m kk ss => exact ⟨stU_sp _, fun r e => by cases e⟩
    have e : tls [32, 124, 32] ((SF.cons n k s).txs a) ++ x = 32 :: 124 :: 32 :: (trT a n (k.txs n.Kind) ++ (tls [32, 124, 32] (s.txs a) ++ x)) := by simp [SF.txs, tls]
    have kq := kid_alt (fu := fu) h.1 ok ha (by omega) hst.1 hst.2
    have oks : s.ok d a := by
      cases d with
      | zero => exact ok.elim
      | succ d => exact ok.2.2.2.2.2
    rw [e]
    show xLoop _ fuL (acc.app (pS (pU (pA fu)) (trT a n (k.txs n.Kind) ++ (tls [32, 124, 32] (s.txs a) ++ x))).1) (pS (pU (pA fu)) (trT a n (k.txs n.Kind) ++ (tls [32, 124, 32] (s.txs a) ++ x))).2 = _
    rw [kq]
    show xLoop _ fuL (acc.app (.cons (lab n) k.raw .nil)) (tls [32, 124, 32] (s.txs a) ++ x) = _
    rw [alt_loop h.2 oks ha (by omega) (by simp [SF.len] at hL; omega) h1 h2 h3, RF.app_assoc]; rfl
end Go.Proofs.Ytdpmojhejidhiaa.K
namespace Go.Proofs.Ytdpmojhejidhiaa.K
open Go.RowKit Go.Lib
set_option linter.unusedVariables false
set_option linter.unusedSimpArgs false
theorem pU_atom {A : Bts → RF × Bts} {c : UInt8} {r : Bts} (h : lett c = true) : pU A (c :: r) = pT (.cons (.leaf false (pLf (c :: r)).1 (pLf (c :: r)).2.1 (pLf (c :: r)).2.2.1) .nil .nil) (pLf (c :: r)).2.2.2 := by
  unfold pU
  split
  · rename_i e; have := (List.cons.inj e).1; subst this; exact absurd h (by decide)
  · rename_i e; have := (List.cons.inj e).1; subst this; exact absurd h (by decide)
  · rfl
theorem unit_leaf {n : GNode} (hk : leaB n = true) (h : lacS n = false) (ht : n.Test.length ≤ 40) (hS : nS n.Test) {A : Bts → RF × Bts} {x : Bts} (hx : stF x) :
    pU A (lefS n ++ x) = if kS n = 5 then (.cons (lab n) .nil .nil, x) else pT (.cons (lab n) .nil .nil) x := by
  have hp := pLf_ok hk h ht hS hx
  have k45 : kS n = 4 ∨ kS n = 5 := by
    unfold leaB at hk
    rcases (Bool.or_eq_true _ _).mp hk with q | q
    · exact .inl (of_decide_eq_true q)
    · exact .inr (of_decide_eq_true q)
  have hlab : lab n = .leaf (decide (kS n = 5)) n.Var n.Type_ (if 0 < n.Test.length then some (pOr 100 (prT n.Test ++ [93])).1 else none) := by
    unfold lab
    rw [if_neg (by omega), if_neg (by omega), if_neg (by omega)]
  generalize hT : n.Var ++ [58] ++ n.Type_ ++ (if 0 < n.Test.length then [91] ++ prT n.Test ++ [93] else []) ++ x = T at hp
  by_cases q : kS n = 5
  · have e : lefS n ++ x = 33 :: T := by rw [← hT]; unfold lefS; rw [if_pos q]; simp
    rw [e, if_pos q, hlab, decide_eq_true q]
    show (RF.cons (.leaf true (pLf T).1 (pLf T).2.1 (pLf T).2.2.1) .nil .nil, (pLf T).2.2.2) = _
    rw [hp]
  · have e : lefS n ++ x = T := by rw [← hT]; unfold lefS; rw [if_neg q]; simp
    obtain ⟨c, r, hv, hc⟩ := name_head (leaf_need hk h).1
    obtain ⟨r', hT'⟩ : ∃ r', T = c :: r' := ⟨r ++ [58] ++ n.Type_ ++ (if 0 < n.Test.length then [91] ++ prT n.Test ++ [93] else []) ++ x, by rw [← hT, hv]; simp⟩
    rw [e, if_neg q, hlab, decide_eq_false q]
    rw [hT'] at hp ⊢
    rw [pU_atom hc, hp]
theorem fin_zero (n : GNode) (s : Bts) : finT 0 n s = s ++ (if kS n = 3 then timS n else []) := by
  unfold finT
  rw [show (decide ((0 : UInt8).toNat = 3) || decide ((0 : UInt8).toNat = 1) && decide (kS n = 2)) = false from rfl]
  rfl
theorem lis_two {n : GNode} (hl : lisB n = true) (h : lacS n = false) : 2 ≤ kdN n ∧ n.Kids = (kdN n : Int) := by
  unfold lacS at h
  rw [if_pos hl] at h
  have h := Bool.or_eq_false_iff.1 h
  have h1 := of_decide_eq_false h.1
  have h2 := of_decide_eq_false h.2
  unfold kdN
  rw [if_pos hl]
  omega
theorem rdS_node {n : GNode} {k s : SF} {d : Nat} {a : UInt8} (ok : (SF.cons n k s).ok d a) (hn : n.Test.length ≤ 40) (hS : nS n.Test) (hSk : sS k.flat) (hl : k.flat.length ≤ 40) (hk : RdF k) : RdS n k := by
  cases d with
  | zero => exact ok.elim
  | succ d =>
  have hkr := of_decide_eq_true ((Bool.and_eq_true _ _).mp ok.1).1
  have okk := ok.2.2.2.2.1
  have hkd := ok.2.2.2.1
  by_cases hlf : leaB n = true
  · have k45 : kS n = 4 ∨ kS n = 5 := by
      unfold leaB at hlf
      rcases (Bool.or_eq_true _ _).mp hlf with q | q
      · exact .inl (of_decide_eq_true q)
      · exact .inr (of_decide_eq_true q)
    rw [kd_leaf hlf] at hkd
    obtain rfl := len_nil hkd.symm
    refine RdS.of_U (by omega) fun fu x hf hx => ?_
    rw [txt_leaf hlf, unit_leaf hlf ok.2.1 hn hS (stU_F hx)]
    split
    · rfl
    · exact pT_no hx
  have hlf' : leaB n = false := by simpa using hlf
  have h1 := kd_more hlf' ok.1 ok.2.1
  have k123 : kS n = 1 ∨ kS n = 2 ∨ kS n = 3 := by
    have h := Bool.or_eq_false_iff.1 hlf'
    have h4 := of_decide_eq_false h.1
    have h5 := of_decide_eq_false h.2
    omega
  cases k with
  | nil => simp [SF.len] at hkd; omega
  | cons m kk ss =>
  have hfl : (SF.cons m kk ss).flat.length = kk.flat.length + ss.flat.length + 1 := by simp [SF.flat]
  have htx : ∀ x, trT 0 n ((SF.cons m kk ss).txs n.Kind) ++ x = trT n.Kind m (kk.txs m.Kind) ++ (tls (sepS n) (ss.txs n.Kind) ++ ((if kS n = 3 then timS n else []) ++ x)) := fun x => by
    unfold trT
    rw [if_neg hlf]
    show finT 0 n (joinL (sepS n) (trT n.Kind m (kk.txs m.Kind)) (ss.txs n.Kind)) ++ x = _
    rw [fin_zero, join_tls]; simp [trT]
  cases d with
  | zero => exact okk.elim
  | succ d =>
  have oks : ss.ok (d + 1) n.Kind := okk.2.2.2.2.2
  rcases k123 with q | q | q
  · have hl1 : lisB n = true := by unfold lisB; rw [q]; rfl
    have h2 := (lis_two hl1 ok.2.1).1
    have hsep : sepS n = [59, 32] := by unfold sepS; rw [if_neg (by omega)]
    refine RdS.of_S (by rintro (c | c); (· exact hlf c); omega) fun fu x hf hx h3 => ?_
    rw [htx, if_neg (by omega), List.nil_append, hsep]
    have hst : stU (tls [59, 32] (ss.txs n.Kind) ++ x) := by
      cases ss with
      | nil => exact hx
      | cons _ _ _ => exact stU_sq _
    have kq := kid_seq (fu := fu) (x := tls [59, 32] (ss.txs n.Kind) ++ x) hk.1 okk q (by omega) hst
    unfold pS
    rw [kq]
    simp only
    have hlen : ss.len < 50 := by
      have : (SF.cons m kk ss).len = ss.len + 1 := rfl
      have := kdN_le n
      omega
    rw [seq_loop (fu := fu) hk.2 oks q (by omega) hlen hx h3]
    simp only
    unfold wrp
    have : ((RF.cons (lab m) kk.raw .nil).app ss.raw).len = (SF.cons m kk ss).len := raw_len (.cons m kk ss)
    rw [this, if_neg (by omega), show lab n = .seq by unfold lab; rw [if_pos q]]
    rfl
  · have hl1 : lisB n = true := by unfold lisB; rw [q]; rfl
    have h2 := (lis_two hl1 ok.2.1).1
    have hsep : sepS n = [32, 124, 32] := by unfold sepS; rw [if_pos q]
    refine ⟨fun c => by rcases c with c | c; (· exact absurd c hlf); omega, fun c => absurd q c, fun fu x hf hx h3 h4 => ?_⟩
    rw [htx, if_neg (by omega), List.nil_append, hsep]
    have hst : stU (tls [32, 124, 32] (ss.txs n.Kind) ++ x) ∧ noSq (tls [32, 124, 32] (ss.txs n.Kind) ++ x) := by
      cases ss with
      | nil => exact ⟨hx, h3⟩
      | cons _ _ _ => exact ⟨stU_sp _, fun r e => by cases e⟩
    have kq := kid_alt (fu := fu) (x := tls [32, 124, 32] (ss.txs n.Kind) ++ x) hk.1 okk q (by omega) hst.1 hst.2
    unfold pA pX
    rw [kq]
    simp only
    have hlen : ss.len < 50 := by
      have : (SF.cons m kk ss).len = ss.len + 1 := rfl
      have := kdN_le n
      omega
    rw [alt_loop (fu := fu) hk.2 oks q (by omega) hlen hx h3 h4]
    simp only
    unfold wrp
    have : ((RF.cons (lab m) kk.raw .nil).app ss.raw).len = (SF.cons m kk ss).len := raw_len (.cons m kk ss)
    rw [this, if_neg (by omega), show lab n = .alt by unfold lab; rw [if_neg (by omega), if_pos q]]
    rfl
  · have hk1 : kdN n = 1 := by unfold kdN lisB; rw [q]; rfl
    have hss : ss = .nil := len_nil (by
      have : (SF.cons m kk ss).len = ss.len + 1 := rfl
      omega)
    subst hss
    have ho := lac_rep q ok.2.1
    refine RdS.of_U (by omega) fun fu x hf hx => ?_
    rw [htx, if_pos q]
    show pU (pA fu) (trT n.Kind m (kk.txs m.Kind) ++ ([] ++ (timS n ++ x))) = _
    rw [List.nil_append, show lab n = .rep (timS n) by unfold lab; rw [if_neg (by omega), if_neg (by omega), if_pos q]]
    have hsm := ((Bool.and_eq_true _ _).mp okk.1).2
    have hSm := hSk m (by simp [SF.flat])
    by_cases lm : leaB m = true
    · have n5 : kS m ≠ 5 := fun c => by
        have hl : lisB m = false := by unfold lisB; rw [c]; rfl
        rw [if_neg (by simp [hl])] at hsm
        rcases (Bool.or_eq_true _ _).mp hsm with w | w
        · exact of_decide_eq_true w c
        · exact of_decide_eq_true w q
      have hkk : kk = .nil := len_nil (by have := okk.2.2.2.1; rw [kd_leaf lm] at this; exact this.symm)
      subst hkk
      rw [txt_leaf lm, unit_leaf lm okk.2.1 hSm.2.2.1 hSm.2.2.2 (tim_F x), if_neg n5, pT_ok ho]; rfl
    · have lm' : leaB m = false := by simpa using lm
      have hts : kk.txs m.Kind ≠ [] := by
        have h1 := kd_more lm' okk.1 okk.2.1
        rw [okk.2.2.2.1] at h1
        cases kk with
        | nil => simp [SF.len] at h1
        | cons _ _ _ => simp [SF.txs]
      rw [tr_par lm' (.inl q) hts, hk.1.P (by omega), pT_ok ho]; rfl
theorem rdF : ∀ {t : SF} {d : Nat} {a : UInt8}, t.ok d a → sS t.flat → t.flat.length ≤ 40 → RdF t
  | .nil, d, a, ok, hS, hl => trivial
  | .cons n k s, 0, a, ok, hS, hl => ok.elim
  | .cons n k s, d + 1, a, ok, hS, hl => by
    have hfl : (SF.cons n k s).flat.length = k.flat.length + s.flat.length + 1 := by simp [SF.flat]
    have hSk : sS k.flat := fun m hm => hS m (by simp [SF.flat, hm])
    have hSs : sS s.flat := fun m hm => hS m (by simp [SF.flat, hm])
    have hn := hS n (by simp [SF.flat])
    exact ⟨rdS_node ok hn.2.2.1 hn.2.2.2 hSk (by omega) (rdF ok.2.2.2.2.1 hSk (by omega)), rdF ok.2.2.2.2.2 hSs (by omega)⟩
/-! ### one reading, one shape -/
def tF (a b : Nat) : Bts := if b = 1 then [63] else if b = 0 then (if a = 0 then [42] else if a = 1 then [43] else [123, UInt8.ofNat (48 + a), 44, 125]) else if b = a then [123, UInt8.ofNat (48 + a), 125] else [123, UInt8.ofNat (48 + a), 44, UInt8.ofNat (48 + b), 125]
theorem tF_inj : ∀ a b c d : Fin 9, ¬ (a.1 = 1 ∧ b.1 = 1) → (b.1 = 0 ∨ a.1 ≤ b.1) → ¬ (c.1 = 1 ∧ d.1 = 1) → (d.1 = 0 ∨ c.1 ≤ d.1) → tF a.1 b.1 = tF c.1 d.1 → a.1 = c.1 ∧ b.1 = d.1 := by decide +kernel
theorem tim_F9 {n : GNode} (h : oftB n = true) : timS n = tF n.Lo.toNat n.Hi.toNat := by
  have h := of_decide_eq_true h
  unfold timS tF
  rw [brc_dig n.Lo (by omega) (by omega), brc_dig n.Hi (by omega) (by omega)]
  by_cases a : n.Hi = 1
  · rw [if_pos a, if_pos (show n.Hi.toNat = 1 by omega)]
  rw [if_neg a, if_neg (show ¬ n.Hi.toNat = 1 by omega)]
  by_cases b : n.Hi = 0
  · rw [if_pos b, if_pos (show n.Hi.toNat = 0 by omega)]
    by_cases c : n.Lo = 0
    · rw [if_pos c, if_pos (show n.Lo.toNat = 0 by omega)]
    rw [if_neg c, if_neg (show ¬ n.Lo.toNat = 0 by omega)]
    by_cases e : n.Lo = 1
    · rw [if_pos e, if_pos (show n.Lo.toNat = 1 by omega)]
    · rw [if_neg e, if_neg (show ¬ n.Lo.toNat = 1 by omega)]; rfl
  · rw [if_neg b, if_neg (show ¬ n.Hi.toNat = 0 by omega)]
    by_cases c : n.Hi = n.Lo
    · rw [if_pos c, if_pos (show n.Hi.toNat = n.Lo.toNat by omega)]; rfl
    · rw [if_neg c, if_neg (show ¬ n.Hi.toNat = n.Lo.toNat by omega)]; rfl
theorem tim_inj {n m : GNode} (h : oftB n = true) (g : oftB m = true) (e : timS n = timS m) : n.Lo = m.Lo ∧ n.Hi = m.Hi := by
  rw [tim_F9 h, tim_F9 g] at e
  have h := of_decide_eq_true h
  have g := of_decide_eq_true g
  have := tF_inj ⟨n.Lo.toNat, by omega⟩ ⟨n.Hi.toNat, by omega⟩ ⟨m.Lo.toNat, by omega⟩ ⟨m.Hi.toNat, by omega⟩ (by show ¬ (n.Lo.toNat = 1 ∧ n.Hi.toNat = 1); omega) (by show n.Hi.toNat = 0 ∨ n.Lo.toNat ≤ n.Hi.toNat; omega) (by show ¬ (m.Lo.toNat = 1 ∧ m.Hi.toNat = 1); omega) (by show m.Hi.toNat = 0 ∨ m.Lo.toNat ≤ m.Hi.toNat; omega) e
  have e1 : n.Lo.toNat = m.Lo.toNat := this.1
  have e2 : n.Hi.toNat = m.Hi.toNat := this.2
  omega
theorem mor_list {n : GNode} (h : morS n = false) (hl : leaB n = false) : n.Var = [] ∧ n.Type_ = [] ∧ n.Test = [] ∧ (kS n ≠ 3 → n.Lo = 0 ∧ n.Hi = 0) := by
  unfold morS at h
  rw [if_neg (by simp [hl])] at h
  simp only [Bool.or_eq_false_iff, decide_eq_false_iff_not, Bool.and_eq_false_iff] at h
  refine ⟨Classical.not_not.1 h.1.1.1, Classical.not_not.1 h.1.1.2, List.eq_nil_of_length_eq_zero (by have := h.1.2; omega), fun k => ?_⟩
  rcases h.2 with q | q
  · exact ⟨by have := q.1; omega, by have := q.2; omega⟩
  · exact absurd k q
theorem mor_leaf {n : GNode} (h : morS n = false) (hl : leaB n = true) : n.Lo = 0 ∧ n.Hi = 0 ∧ n.Kids = 0 := by
  unfold morS at h
  rw [if_pos hl] at h
  simp only [Bool.or_eq_false_iff, decide_eq_false_iff_not] at h
  exact ⟨by have := h.1.1; omega, by have := h.1.2; omega, by have := h.2; omega⟩
theorem gnode_eq {n m : GNode} (h1 : n.Kind = m.Kind) (h2 : n.Kids = m.Kids) (h3 : n.Lo = m.Lo) (h4 : n.Hi = m.Hi) (h5 : n.Var = m.Var) (h6 : n.Type_ = m.Type_) (h7 : n.Test = m.Test) : n = m := by
  cases n; cases m; simp_all
/-- 1, 2, 3: a Seq, an Alt, a Rep; 4, 5: leaves. -/
def labK : Lb → Nat
  | .seq => 1
  | .alt => 2
  | .rep _ => 3
  | .leaf false _ _ _ => 4
  | .leaf true _ _ _ => 5
theorem labK_ok {n : GNode} (h : 1 ≤ kS n ∧ kS n ≤ 5) : labK (lab n) = kS n := by
  unfold lab
  by_cases a : kS n = 1
  · rw [if_pos a, a]; rfl
  rw [if_neg a]
  by_cases b : kS n = 2
  · rw [if_pos b, b]; rfl
  rw [if_neg b]
  by_cases c : kS n = 3
  · rw [if_pos c, c]; rfl
  rw [if_neg c]
  by_cases d : kS n = 5
  · rw [decide_eq_true d, d]; rfl
  · rw [decide_eq_false d]; show 4 = kS n; omega
theorem lab_inj {n m : GNode} (hn : 1 ≤ kS n ∧ kS n ≤ 5) (hm : 1 ≤ kS m ∧ kS m ≤ 5) (ln : lacS n = false) (lm : lacS m = false) (mn : morS n = false) (mm : morS m = false) (hk : kdN n = kdN m)
    (tn : n.Test.length ≤ 40) (sn : nS n.Test) (tm : m.Test.length ≤ 40) (sm : nS m.Test) (e : lab n = lab m) : n = m := by
  have ek : kS n = kS m := by rw [← labK_ok hn, ← labK_ok hm, e]
  have eK : n.Kind = m.Kind := UInt8.toNat_inj.1 ek
  cases hl : leaB n with
  | true =>
    have hl' : leaB m = true := by unfold leaB at hl ⊢; rw [← ek]; exact hl
    have k45 : kS n = 4 ∨ kS n = 5 := by
      unfold leaB at hl
      rcases (Bool.or_eq_true _ _).mp hl with q | q
      · exact .inl (of_decide_eq_true q)
      · exact .inr (of_decide_eq_true q)
    unfold lab at e
    rw [if_neg (show ¬ kS n = 1 by omega), if_neg (show ¬ kS n = 2 by omega), if_neg (show ¬ kS n = 3 by omega), if_neg (show ¬ kS m = 1 by omega), if_neg (show ¬ kS m = 2 by omega), if_neg (show ¬ kS m = 3 by omega)] at e
    obtain ⟨_, e1, e2, e3⟩ := Lb.leaf.inj e
    have a := mor_leaf mn hl
    have b := mor_leaf mm hl'
    refine gnode_eq eK (by omega) (by omega) (by omega) e1 e2 ?_
    by_cases c : 0 < n.Test.length
    · rw [if_pos c] at e3
      by_cases d : 0 < m.Test.length
      · rw [if_pos d] at e3
        obtain ⟨t, f1, f2, f3⟩ := tst_ok tn sn c (leaf_need hl ln).2.2
        obtain ⟨u, g1, g2, g3⟩ := tst_ok tm sm d (leaf_need hl' lm).2.2
        rw [f3, g3] at e3
        have : t = u := raw_inj f2 g2 (f1 ▸ sn) (g1 ▸ sm) (Option.some.inj e3)
        rw [f1, g1, this]
      · rw [if_neg d] at e3; cases e3
    · rw [if_neg c] at e3
      by_cases d : 0 < m.Test.length
      · rw [if_pos d] at e3; cases e3
      · rw [List.eq_nil_of_length_eq_zero (l := n.Test) (by omega), List.eq_nil_of_length_eq_zero (l := m.Test) (by omega)]
  | false =>
    have hl' : leaB m = false := by unfold leaB at hl ⊢; rw [← ek]; exact hl
    have a := mor_list mn hl
    have b := mor_list mm hl'
    by_cases c : kS n = 3
    · have c' : kS m = 3 := by omega
      unfold lab at e
      rw [if_neg (show ¬ kS n = 1 by omega), if_neg (show ¬ kS n = 2 by omega), if_pos c, if_neg (show ¬ kS m = 1 by omega), if_neg (show ¬ kS m = 2 by omega), if_pos c'] at e
      have t := tim_inj (lac_rep c ln) (lac_rep c' lm) (Lb.rep.inj e)
      have kid : ∀ {z : GNode}, kS z = 3 → lacS z = false → z.Kids = 1 := fun hz h => by
        unfold lacS lisB at h
        rw [hz] at h
        simp at h
        exact h.1
      exact gnode_eq eK ((kid c ln).trans (kid c' lm).symm) t.1 t.2 (a.1.trans b.1.symm) (a.2.1.trans b.2.1.symm) (a.2.2.1.trans b.2.2.1.symm)
    · have li : lisB n = true := by
        have h := Bool.or_eq_false_iff.1 hl
        have h4 := of_decide_eq_false h.1
        have h5 := of_decide_eq_false h.2
        unfold lisB
        have : kS n = 1 ∨ kS n = 2 := by omega
        rcases this with q | q <;> rw [q] <;> rfl
      have li' : lisB m = true := by unfold lisB at li ⊢; rw [← ek]; exact li
      have k1 := (lis_two li ln).2
      have k2 := (lis_two li' lm).2
      have a4 := a.2.2.2 c
      have b4 := b.2.2.2 (by omega)
      exact gnode_eq eK (by omega) (by omega) (by omega) (a.1.trans b.1.symm) (a.2.1.trans b.2.1.symm) (a.2.2.1.trans b.2.2.1.symm)
theorem sraw_inj : ∀ {t u : SF} {d e : Nat} {a b : UInt8}, t.ok d a → u.ok e b → sS t.flat → sS u.flat → t.raw = u.raw → t = u
  | .nil, .nil, _, _, _, _, _, _, _, _, _ => rfl
  | .nil, .cons _ _ _, _, _, _, _, _, _, _, _, q => by cases q
  | .cons _ _ _, .nil, _, _, _, _, _, _, _, _, q => by cases q
  | .cons n k s, .cons m j v, 0, _, _, _, h, _, _, _, _ => h.elim
  | .cons n k s, .cons m j v, d + 1, 0, _, _, _, g, _, _, _ => g.elim
  | .cons n k s, .cons m j v, d + 1, e + 1, a, b, h, g, hS, gS, q => by
    obtain ⟨q1, q2, q3⟩ := RF.cons.inj q
    have ek : k = j := sraw_inj h.2.2.2.2.1 g.2.2.2.2.1 (fun x hx => hS x (by simp [SF.flat, hx])) (fun x hx => gS x (by simp [SF.flat, hx])) q2
    have es : s = v := sraw_inj h.2.2.2.2.2 g.2.2.2.2.2 (fun x hx => hS x (by simp [SF.flat, hx])) (fun x hx => gS x (by simp [SF.flat, hx])) q3
    have hn := hS n (by simp [SF.flat])
    have gm := gS m (by simp [SF.flat])
    have en : n = m := lab_inj (of_decide_eq_true ((Bool.and_eq_true _ _).mp h.1).1) (of_decide_eq_true ((Bool.and_eq_true _ _).mp g.1).1) h.2.1 g.2.1 h.2.2.1 g.2.2.1 (by rw [h.2.2.2.1, g.2.2.2.1, ek]) hn.2.2.1 hn.2.2.2 gm.2.2.1 gm.2.2.2 q1
    rw [en, ek, es]
end Go.Proofs.Ytdpmojhejidhiaa.K
