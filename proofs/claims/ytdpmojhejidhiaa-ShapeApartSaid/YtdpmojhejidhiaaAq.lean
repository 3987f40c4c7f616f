/- Unsigned numbers, conversions, bytes; contracts with frozen results. -/
import Derived.Test.YtdpmojhejidhiaaAp
namespace Go.Proofs.Ytdpmojhejidhiaa.K
open Go.RowKit Go.Lib
set_option linter.unusedVariables false
set_option linter.unusedSimpArgs false

theorem wrap_u64 (n : Int) : IntKind.u64.wrap n = n % 18446744073709551616 := by simp [IntKind.wrap, IntKind.signed, IntKind.bits]
theorem wrap_u8 (n : Int) : IntKind.u8.wrap n = n % 256 := by simp [IntKind.wrap, IntKind.signed, IntKind.bits]
theorem wrap_u32 (n : Int) : IntKind.u32.wrap n = n % 4294967296 := by simp [IntKind.wrap, IntKind.signed, IntKind.bits]
theorem lit_u64 {x y : Int} (h : x = y) (h1 : 0 ≤ y) (h2 : y < 18446744073709551616) : A.d (.lit (.int .u64 (IntKind.u64.wrap x))) = .d (.lit (.int .u64 y)) := by
  subst h; rw [wrap_u64, Int.emod_eq_of_lt h1 h2]
theorem lit_u64m {x y : Int} (h : x % 18446744073709551616 = y) : A.d (.lit (.int .u64 (IntKind.u64.wrap x))) = .d (.lit (.int .u64 y)) := by rw [wrap_u64, h]
theorem lit_u8 {x y : Int} (h : x % 256 = y) : A.d (.lit (.int .u8 (IntKind.u8.wrap x))) = .d (.lit (.int .u8 y)) := by rw [wrap_u8, h]
theorem lit_u32 {x y : Int} (h : x = y) (h1 : 0 ≤ y) (h2 : y < 4294967296) : A.d (.lit (.int .u32 (IntKind.u32.wrap x))) = .d (.lit (.int .u32 y)) := by
  subst h; rw [wrap_u32, Int.emod_eq_of_lt h1 h2]
theorem lit_uquo {x y z : Int} (h0 : 0 ≤ x) (h1 : x < 18446744073709551616) (h2 : 1 ≤ y) (h3 : x / y = z) : A.d (.lit (.int .u64 (IntKind.u64.wrap (x.tdiv y)))) = .d (.lit (.int .u64 z)) := by
  rw [Int.tdiv_eq_ediv_of_nonneg h0, h3]
  refine lit_u64 rfl ?_ ?_
  · rw [← h3]; exact Int.ediv_nonneg h0 (by omega)
  · rw [← h3]
    have : x / y ≤ x := by
      rcases Int.eq_ofNat_of_zero_le h0 with ⟨n, rfl⟩
      rcases Int.eq_ofNat_of_zero_le (show 0 ≤ y by omega) with ⟨k, rfl⟩
      exact_mod_cast Nat.div_le_self n k
    omega
theorem lit_urem {k : IntKind} {x y z : Int} (h0 : 0 ≤ x) (h3 : x % y = z) : A.d (.lit (.int k (x.tmod y))) = .d (.lit (.int k z)) := by
  rw [Int.tmod_eq_emod_of_nonneg h0, h3]
theorem shr_nat (u n : Nat) : ((u : Int)).fdiv (2 ^ n) = ((u / 2 ^ n : Nat) : Int) := by
  rw [Int.fdiv_eq_ediv_of_nonneg _ (Int.pow_nonneg (by decide))]
  push_cast
  rfl
theorem lit_shr {k : IntKind} {u n : Nat} {z : Int} (h : ((u / 2 ^ n : Nat) : Int) = z) : A.d (.lit (.int k (((u : Nat) : Int).fdiv (2 ^ n)))) = .d (.lit (.int k z)) := by rw [shr_nat, h]
section
variable {P : Program}
theorem run_conv {s t : TypeId} {ds : TypeDesc} {k k' : IntKind} {a : Int} (hs : P.underlying s = some ds) (ht : P.underlying t = some (.int k')) (w : World) : (convert s t (.int k a)).run P w = .ok (.int k' (k'.wrap a)) w := by
  simp [convert, run_underlying hs, run_underlying ht, Conv.intToInt]
theorem run_convS {s t : TypeId} {b : ByteArray} (hs : P.underlying s = some .string) (ht : P.underlying t = some .string) (w : World) : (convert s t (.string b)).run P w = .ok (.string b) w := by
  simp [convert, run_underlying hs, run_underlying ht]
end
theorem mk_bytes (n : Nat) : (List.replicate n ([Value.int .u8 0].map litD)).flatten = bytesD (List.replicate n 0) := by
  induction n with
  | zero => rfl
  | succ n ih => rw [List.replicate_succ, List.flatten_cons, ih]; rfl
theorem put_bytes {l z r : List UInt8} : putC (bytesD (l ++ z)) (l.length * 1) (bytesD r) = bytesD (l ++ r ++ z.drop r.length) := by
  unfold putC
  simp only [bytesD_length, Nat.mul_one]
  rw [bytesD_append, List.take_left' (by simp), List.drop_append, List.drop_of_length_le (by simp), bytesD_append, bytesD_append, List.nil_append]
  congr 1
  simp only [bytesD, List.map_drop, List.length_map, Nat.add_sub_cancel_left]
theorem put_bytes0 {z r : List UInt8} : putC (bytesD z) 0 (bytesD r) = bytesD (r ++ z.drop r.length) := by
  have := put_bytes (l := []) (z := z) (r := r)
  simpa using this
section
variable {P : Program} {o : Oper} {st : St}
/-- 's[n:]', n its length. -/
theorem op_sliceEmpty {t e sz : Nat} {x lo : Operand} {y : A} {ds : List D} {off n : Nat} {k : IntKind} {v : Int} (ho : o.op = .slice t x (some lo) none none) (he : sliceElem P t = some (e, sz)) (hx : opA st x = y) (hy : sliceAt st.H y = some (ds, off, n)) (hlo : opA st lo = .d (.lit (.int k v))) (hv : v = (n : Int)) :
    OpRun P o st (locsOf [x, lo] ++ locA y) (.d (.sl 0 [])) [] := by
  refine .pure fun st' hag cx m S a w hs => ?_
  have hr := op_rep hx (R := locsOf [x, lo] ++ locA y) (fun l h => by simp [locsOf, h]) hag hs
  have hev := op_lit hlo (R := locsOf [x, lo] ++ locA y) (fun l h => by simp [locsOf, h]) hag hs
  rw [← sliceA_agree fun l h => hag l (by simp [h])] at hy
  obtain ⟨p, cap, hvv, k1, k2, k3, k4⟩ := sliceAt_spec hs.hold hy hr
  refine ⟨_, run_slice (P := P) (l := n) (h := n) ho he hvv ⟨k, by rw [hev, hv]⟩ rfl (Nat.le_refl _) k1, ?_⟩
  simp only [Rep]
  unfold RepD
  refine ⟨_, _, by rw [Nat.sub_self], Nat.zero_le _, by omega, fun hp => ⟨rfl, ?_⟩, by simp only [RepDs]⟩
  cases p with
  | none => have := (k3 rfl).2; omega
  | some q => split at hp <;> cases hp
theorem op_copyNone {t ts e : Nat} {d s : Operand} {y : A} {ds : List D} {off : Nat} {str : ByteArray} (ho : o.op = .call ⟨.builtin .copy, #[d, s], #[t, ts]⟩) (he : sliceElem P t = some (e, 1)) (hd : opA st d = y) (hy : sliceAt st.H y = some (ds, off, 0)) (hx : opA st s = .d (.lit (.string str))) : OpRun P o st (locsOf [d, s] ++ locA y) (.d (.lit (.int .i64 0))) [] := by
  refine .pure fun st' hag cx m S a w hs => ⟨.int .i64 0, ?_, by simp only [Rep]; unfold RepD; exact ⟨rfl, rfl⟩⟩
  have hr := op_rep hd (R := locsOf [d, s] ++ locA y) (fun l h => by simp [locsOf, h]) hag hs
  have hev := op_lit hx (R := locsOf [d, s] ++ locA y) (fun l h => by simp [locsOf, h]) hag hs
  rw [← sliceA_agree fun l h => hag l (by simp [h])] at hy
  obtain ⟨p, cap, hvv, k1, k2, k3, k4⟩ := sliceAt_spec hs.hold hy hr
  obtain ⟨hu, inf, hinf, hsz⟩ := sliceElem_spec he
  have hmin : Nat.min str.size 0 = 0 := Nat.min_eq_right (Nat.zero_le _)
  have hfc : (Builtin.firstCells inf.size 0 (.string str)).run P w = .ok #[] w := by
    have : (str.extract 0 0).data = #[] := by
      apply Array.ext'
      simp [ByteArray.data_extract]
    simp [Builtin.firstCells, this]
  cases p <;> simp [execOp, ho, resolve, invoke, builtin, hvv, hev, Builtin.copy_, run_underlying hu, sizeOf, typeInfo, hinf, Builtin.lenOf, hmin, hfc, storeCells, goInt]
end
theorem arr_ren {ids : List Nat} {e sz n n' : Nat} {xs ys : List D} (h1 : n = n') (h2 : xs = ys) : (Blk.arr e sz n xs).ren ids = some (.arr e sz n' ys) := by rw [h1, h2]; rfl
theorem byte_nat (x : Nat) : (UInt8.ofNat (x % 256)).toNat = x % 256 := by rw [UInt8.toNat_ofNat']; exact Nat.mod_eq_of_lt (by omega)
theorem shr8 (u k : Nat) : ((u / 256 ^ k / 2 ^ 8 : Nat) : Int) = ((u / 256 ^ (k + 1) : Nat) : Int) := by rw [show (2 : Nat) ^ 8 = 256 from rfl, Nat.pow_succ, ← Nat.div_div_eq_div_mul]
theorem pow8 (w : Nat) : 2 ^ (8 * w) = 256 ^ w := by rw [Nat.pow_mul]
/-- A contract whose new blocks are frozen. -/
theorem GCall.frz {P : Program} {f : FuncId} {args : List A} {res res' : A} {post : List Blk} (h : GCall P f args [] res post) (vids : List Nat) (hr : res'.ren [] = some (A.nn (res.view post vids))) : GCall P f args [] res' [] := by
  intro m S w vs hH hargs
  refine Calls.mono (h m S w vs hH hargs) fun e w' ⟨v, m', S', he, h1, h2⟩ => ⟨v, via [] (fzm m' post vids), SV' m' S' vids, he, ?_, ?_⟩
  · have hf := h1.freeze (vids := vids) (H' := putB post (vids.map fun id => (id, (post.getD id .unborn).frz))) fun k => by
      rw [getD_putB, lastB_frz]
      by_cases hk : k ∈ vids <;> simp [hk]
    exact hf.via (ids := []) List.nodup_nil ⟨rfl, fun j k hk => by simp at hk⟩ fun id p hp => by
      have := hH.ok id
      simp only [List.getD_nil, BlkOK] at this
      simp only at hp
      rw [this] at hp; cases hp
  · exact (Rep.via res' _ v hr).2 (Rep.nn _ _ (Rep.mono (fzm_le h1 vids) (fun _ h => h) (Keeps.refl _ w') _ _ (Rep.view h1 _ _ h2)))
/-- A text added to a row of bytes. -/
theorem op_appendStr {P : Program} {o : Oper} {st : St} {t u e id nid n : Nat} {s x : Operand} {xs : List D} {str : ByteArray} (ho : o.op = .call ⟨.builtin .append, #[s, x], #[t, u]⟩) (E : ElemOK P t e 1 1 (.int .u8 0)) (hu : P.underlying u = some .string) (hs0 : opA st s = .own id) (hb : st.H.getD id .unborn = .arr e 1 n xs) (hx : opA st x = .d (.lit (.string str)))
    (hbytes : n + str.size ≤ 140737488355328) (hnid : st.H.getD nid .unborn = .unborn) (hne : id ≠ nid) : OpRun P o st (locsOf [s, x] ++ [.blk id, .blk nid]) (.own nid) [(id, .gone), (nid, .arr e 1 (n + str.size) (xs ++ bytesD str.data.toList))] := by
  refine .value fun st' hag cx m S a w hs => ?_
  have hnid' : st'.H.getD nid .unborn = .unborn := (blk1 (by simp) hag).trans hnid
  have hb' : st'.H.getD id .unborn = .arr e 1 n xs := (blk1 (by simp) hag).trans hb
  have hrs := op_rep hs0 (R := locsOf [s, x] ++ [.blk id, .blk nid]) (fun l h => by simp [locsOf, h]) hag hs
  have hev := op_lit hx (R := locsOf [s, x] ++ [.blk id, .blk nid]) (fun l h => by simp [locsOf, h]) hag hs
  have hok := hs.hold.ok id
  rw [hb'] at hok
  obtain ⟨v, h5, ⟨cells, h6, h7, h8⟩, h9⟩ := hok
  simp only [Rep, h5] at hrs
  obtain ⟨hrs, _⟩ := hrs
  obtain ⟨i, hi, hz, h4, hby⟩ := E.parts
  have hm : n + str.size ≤ maxLen := by unfold maxLen; omega
  obtain ⟨v', w', hrun, j1, j2, j3⟩ := run_append_own_stringR (P := P) w t u o.type e i E.slice hu hi hz h4 hby v n cells h6 str hm hbytes
  have k1 : RepsD S w (bytesD str.data.toList) (strCells str) := ⟨by rw [strCells_length, bytesD_length]; rfl, fun j x u hx hu => by
    simp only [strCells, bytesD, List.getElem?_map] at hx hu
    cases hj : str.data.toList[j]? with
    | none => rw [hj] at hx; cases hx
    | some b => rw [hj] at hx hu; cases hx; cases hu; unfold byteD RepD; exact ⟨rfl, rfl⟩⟩
  have hold := hold_grow (b := .arr e 1 (n + str.size) (xs ++ bytesD str.data.toList)) hs.hold h5 h9 hnid' hne j2 (ownsRow_lt j1) j3 fun hK hLe => by
    refine ⟨v', by simp only [updM, if_true], ⟨cells ++ strCells str, j1, ?_, fun u hu => ?_⟩, fun g hg hS => ?_⟩
    · have r1 := h7.mono (fun _ h => h) hK
      have r2 := k1.mono (fun _ h => h) hK
      refine ⟨by rw [List.length_append, List.length_append, r1.1, r2.1], fun i x u hx hu => ?_⟩
      rw [List.getElem?_append] at hx hu
      rw [r1.1] at hu
      split at hx
      · rename_i hi; rw [if_pos hi] at hu; exact r1.2 i x u hx hu
      · rename_i hi; rw [if_neg hi] at hu; exact r2.2 _ x u hx hu
    · rcases List.mem_append.1 hu with hu | hu
      · exact h8 u hu
      · exact strCells_oneCell str u hu
    · rcases j3 g hg with h | h
      · exact h9 g h hS
      · have := (hs.hold.s g hS).2; omega
  refine ⟨v', w', _, S, ?_, hold.1, fun _ h => h, hold.2.1, hold.2.2, ?_⟩
  · simp [execOp, ho, resolve, invoke, builtin, hrs, hev, hrun]
  · simp only [Rep, updM, if_true]
    refine ⟨trivial, ?_⟩
    obtain ⟨_, ⟨rfl, _⟩ | ⟨g, cap, cur, rfl, _⟩⟩ := j1 <;> rfl
end Go.Proofs.Ytdpmojhejidhiaa.K
