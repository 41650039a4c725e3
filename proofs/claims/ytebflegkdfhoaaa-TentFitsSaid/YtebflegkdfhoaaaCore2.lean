/-
  Structs and arrays whose cells are all ints, as lists of numbers ('A'): their parts, and '==' on them. Conditions: none; every lemma names its own.
-/
import Derived.Test.YtebflegkdfhoaaaCore
import Derived.ChangeKeysEq
namespace Go.Proofs.Ytebflegkdfhoaaa
open Go.RowKit

/-- The cells of a struct or an array of ints. -/
def A (l : List Int) : Array Value := (l.map (Value.int .i64)).toArray
@[go_sem] theorem size_A (l : List Int) : (A l).size = l.length := by simp [A]
theorem get_A (l : List Int) (i : Nat) : (A l)[i]? = (l[i]?).map (Value.int .i64) := by simp [A]
@[go_sem] theorem plain_A (l : List Int) : Plain (A l) := by
  intro v hv
  simp only [A, List.mem_toArray, List.mem_map] at hv
  obtain ⟨x, _, rfl⟩ := hv
  rfl
@[go_sem] theorem set_A (l : List Int) (i : Nat) (x : Int) : (A l).setIfInBounds i (.int .i64 x) = A (l.set i x) := by
  simp [A, List.map_set]
theorem extract_A (l : List Int) (i j : Nat) : (A l).extract i j = A ((l.take j).drop i) := by
  apply Array.ext_getElem?
  intro k
  simp only [Array.getElem?_extract, get_A, size_A, List.getElem?_drop, List.getElem?_take]
  by_cases h : k < min j l.length - i
  · rw [if_pos h, if_pos (by omega)]
  · rw [if_neg h]
    by_cases h2 : i + k < j
    · rw [if_pos h2, List.getElem?_eq_none (by omega)]; rfl
    · rw [if_neg h2]; rfl
theorem A_inj {l m : List Int} (h : A l = A m) : l = m := by
  apply List.ext_getElem?
  intro i
  have := congrArg (·[i]?) h
  simp only [get_A] at this
  cases hl : l[i]? <;> cases hm : m[i]? <;> simp_all

def tiles (P : Program) (off total : Nat) : List Field → Bool
  | [] => off == total
  | f :: fs => f.offset == off && f.name != "_" && tiles P (off + P.cellsOf f.type) total fs
/-- Are all cells of a type ints? -/
def flatAt (P : Program) : Nat → TypeId → Bool
  | 0, _ => false
  | d + 1, t => (P.info? t).isSome && match P.underlying t with
    | some (.int .i64) => P.cellsOf t == 1
    | some (.array n e) => P.cellsOf t == n * P.cellsOf e && flatAt P d e
    | some (.struct fs) => !P.stoodInHeld t && tiles P 0 (P.cellsOf t) fs.toList && fs.toList.all (fun f => flatAt P d f.type)
    | _ => false
def valOf (P : Program) (t : TypeId) (l : List Int) : Value :=
  match P.underlying t with
  | some (.array _ _) | some (.struct _) => .agg (A l)
  | _ => .int .i64 (l.headD 0)
section
variable {P : Program}
theorem run_sizeOf (w : World) {t : TypeId} (h : (P.info? t).isSome = true) : (Go.sizeOf t).run P w = .ok (P.cellsOf t) w := by
  obtain ⟨i, hi⟩ := Option.isSome_iff_exists.1 h
  simp [Go.sizeOf, typeInfo, Program.cellsOf, hi]
theorem flat_info {d : Nat} {t : TypeId} (h : flatAt P d t = true) : (P.info? t).isSome = true := by
  cases d with
  | zero => simp [flatAt] at h
  | succ d => unfold flatAt at h; simp only [Bool.and_eq_true] at h; exact h.1
theorem run_part_flat (w : World) {d : Nat} {t : TypeId} (h : flatAt P d t = true) (l : List Int) (off : Nat) (hl : off + P.cellsOf t ≤ l.length) :
    (part t (A l) off).run P w = .ok (valOf P t ((l.drop off).take (P.cellsOf t))) w := by
  have hi := flat_info h
  have hx : (A l).extract off (off + P.cellsOf t) = A ((l.drop off).take (P.cellsOf t)) := by
    rw [extract_A]; congr 1; rw [List.drop_take]; congr 1; omega
  cases d with
  | zero => simp [flatAt] at h
  | succ d =>
    unfold flatAt at h
    simp only [Bool.and_eq_true] at h
    obtain ⟨_, h⟩ := h
    split at h
    · rename_i hu
      have hc : P.cellsOf t = 1 := by simpa using h
      have ha : (isAgg t).run P w = .ok false w := by simp [isAgg, run_underlying hu]
      rw [hc] at hl ⊢
      have hg : (A l)[off]? = some (.int .i64 (l[off]'(by omega))) := by rw [get_A, List.getElem?_eq_getElem (by omega)]; rfl
      simp only [part, Sem.run_bind, ha, Result.andThen_ok, Bool.false_eq_true, if_false, hg, Sem.run_pure, valOf, hu]
      congr 2
      rw [List.drop_eq_getElem_cons (by omega), List.take_succ_cons]
      rfl
    · rename_i n e hu
      have ha : (isAgg t).run P w = .ok true w := by simp [isAgg, run_underlying hu]
      simp only [part, Sem.run_bind, ha, Result.andThen_ok, if_true, run_sizeOf w hi, Sem.run_pure, valOf, hu, hx]
    · rename_i fs hu
      have ha : (isAgg t).run P w = .ok true w := by simp [isAgg, run_underlying hu]
      simp only [part, Sem.run_bind, ha, Result.andThen_ok, if_true, run_sizeOf w hi, Sem.run_pure, valOf, hu, hx]
    · simp at h
theorem take_beq (l m : List Int) (n : Nat) (h : l.length = m.length) : ((l.take n == m.take n) && (l.drop n == m.drop n)) = (l == m) := by
  rw [Bool.eq_iff_iff]
  simp only [Bool.and_eq_true, beq_iff_eq]
  constructor
  · rintro ⟨h1, h2⟩
    rw [← List.take_append_drop n l, ← List.take_append_drop n m, h1, h2]
  · rintro rfl
    exact ⟨rfl, rfl⟩
/-- '==' on a type whose cells are all ints, at any fuel from d on. -/
theorem run_equalIn_flat (e : Nat) : ∀ (d : Nat) (t : TypeId) (w : World) (l m : List Int), flatAt P d t = true → l.length = P.cellsOf t → m.length = P.cellsOf t →
    (Op.equalIn (e + d) t (valOf P t l) (valOf P t m)).run P w = .ok (l == m) w := by
  intro d
  induction d with
  | zero => intro t w l m h; simp [flatAt] at h
  | succ d ih =>
    intro t w l m h hl hm
    have hi := flat_info h
    unfold flatAt at h
    simp only [Bool.and_eq_true] at h
    obtain ⟨_, h⟩ := h
    rw [show e + (d + 1) = (e + d) + 1 from rfl]
    split at h
    · rename_i hu
      have hc : P.cellsOf t = 1 := by simpa using h
      obtain ⟨x, rfl⟩ := List.length_eq_one_iff.1 (hl.trans hc)
      obtain ⟨y, rfl⟩ := List.length_eq_one_iff.1 (hm.trans hc)
      simp [valOf, hu, run_equalIn_int w (e + d) t .i64 .i64 x y hu]
    · rename_i n el hu
      simp only [Bool.and_eq_true, beq_iff_eq] at h
      obtain ⟨hc, hf⟩ := h
      obtain ⟨i, hinfo⟩ := Option.isSome_iff_exists.1 (flat_info hf)
      have key : ∀ (n k : Nat), l.length = (k + n) * P.cellsOf el → m.length = l.length →
          (Op.eqItems (e + d) el (P.cellsOf el) (A l) (A m) (List.range' k n)).run P w = .ok (l.drop (k * P.cellsOf el) == m.drop (k * P.cellsOf el)) w := by
        intro n
        induction n with
        | zero =>
          intro k h1 h2
          rw [Nat.add_zero] at h1
          rw [List.drop_eq_nil_of_le (by omega), List.drop_eq_nil_of_le (by omega)]
          simp [Op.eqItems]
        | succ n ihn =>
          intro k h1 h2
          have e1 : (k + 1) * P.cellsOf el = k * P.cellsOf el + P.cellsOf el := Nat.succ_mul _ _
          have e2 : (k + (n + 1)) * P.cellsOf el = k * P.cellsOf el + P.cellsOf el + n * P.cellsOf el := by rw [show k + (n + 1) = k + 1 + n from by omega, Nat.add_mul, e1]
          rw [e2] at h1
          rw [List.range'_succ]
          simp only [Op.eqItems, Sem.run_bind, run_part_flat w hf l (k * P.cellsOf el) (by omega), run_part_flat w hf m (k * P.cellsOf el) (by omega), Result.andThen_ok]
          rw [ih el w _ _ hf (by simp; omega) (by simp; omega)]
          rw [← take_beq (l.drop (k * P.cellsOf el)) (m.drop (k * P.cellsOf el)) (P.cellsOf el) (by simp; omega), List.drop_drop, List.drop_drop, ← e1]
          have := ihn (k + 1) (by rw [show k + 1 + n = k + (n + 1) from by omega, e2]; omega) h2
          cases (l.drop (k * P.cellsOf el)).take (P.cellsOf el) == (m.drop (k * P.cellsOf el)).take (P.cellsOf el)
          · simp
          · simpa using this
      have hk := key n 0 (by rw [Nat.zero_add, ← hc]; exact hl) (hm.trans hl.symm)
      simp only [valOf, hu]
      rw [run_equalIn_array w (e + d) (A l) (A m) hu hinfo, List.range_eq_range', hk]
      simp
    · rename_i fs hu
      simp only [Bool.and_eq_true, Bool.not_eq_true'] at h
      obtain ⟨⟨hst, ht⟩, hf⟩ := h
      have key : ∀ (fl : List Field) (off : Nat), tiles P off (P.cellsOf t) fl = true → fl.all (fun f => flatAt P d f.type) = true → off ≤ P.cellsOf t →
          (Op.eqFields (e + d) (A l) (A m) fl).run P w = .ok (l.drop off == m.drop off) w := by
        intro fl
        induction fl with
        | nil =>
          intro off h1 _ _
          simp only [tiles, beq_iff_eq] at h1
          rw [List.drop_eq_nil_of_le (by omega), List.drop_eq_nil_of_le (by omega)]
          simp [Op.eqFields]
        | cons f fl ihf =>
          intro off h1 h2 h3
          simp only [tiles, Bool.and_eq_true, beq_iff_eq, bne_iff_ne, ne_eq] at h1
          obtain ⟨⟨ho, hn⟩, h1⟩ := h1
          simp only [List.all_cons, Bool.and_eq_true] at h2
          have hle : off + P.cellsOf f.type ≤ P.cellsOf t := by
            have : ∀ (fl : List Field) (off : Nat), tiles P off (P.cellsOf t) fl = true → off ≤ P.cellsOf t := by
              intro fl
              induction fl with
              | nil => intro off h; simp only [tiles, beq_iff_eq] at h; omega
              | cons g fl ihg =>
                intro off h
                simp only [tiles, Bool.and_eq_true] at h
                have := ihg _ h.2
                omega
            exact this _ _ h1
          simp only [Op.eqFields, ne_eq, hn, not_false_eq_true, if_true, ho, Sem.run_bind, run_part_flat w h2.1 l off (by omega), run_part_flat w h2.1 m off (by omega), Result.andThen_ok]
          rw [ih f.type w _ _ h2.1 (by simp; omega) (by simp; omega)]
          rw [← take_beq (l.drop off) (m.drop off) (P.cellsOf f.type) (by simp; omega), List.drop_drop, List.drop_drop]
          have := ihf _ h1 h2.2 hle
          cases (l.drop off).take (P.cellsOf f.type) == (m.drop off).take (P.cellsOf f.type)
          · simp
          · simpa using this
      have hfs : P.fieldsOf t = fs := by simp [Program.fieldsOf, hu]
      have hk := key fs.toList 0 ht hf (Nat.zero_le _)
      simp only [valOf, hu]
      rw [run_equalIn_struct w (e + d) t (A l) (A m) (by rw [hfs]; exact hu) hst, hfs, hk]
      simp
    · simp at h
theorem run_eql_flat (d : Nat) {t : TypeId} (h : flatAt P d t = true) (hd : d ≤ 10000) (ha : (match P.underlying t with | some (.array _ _) | some (.struct _) => true | _ => false) = true) (w : World) (l m : List Int) (hl : l.length = P.cellsOf t) (hm : m.length = P.cellsOf t) :
    (binOp .eql t (.agg (A l)) (.agg (A m))).run P w = .ok (.bool (l == m)) w ∧ (binOp .neq t (.agg (A l)) (.agg (A m))).run P w = .ok (.bool (l != m)) w := by
  have hv : ∀ l, valOf P t l = .agg (A l) := by
    intro l
    unfold valOf
    split at ha <;> simp_all
  have := run_equalIn_flat (P := P) (10000 - d) d t w l m h hl hm
  rw [hv, hv, show 10000 - d + d = 10000 from by omega] at this
  rw [run_eql_struct, run_neq_struct, this]
  exact ⟨rfl, rfl⟩
end
/-! Literals. -/
@[go_sem] theorem lit_A1 (a : Int) : Value.agg #[.int .i64 a] = .agg (A [a]) := rfl
@[go_sem] theorem lit_A2 (a b : Int) : Value.agg #[.int .i64 a, .int .i64 b] = .agg (A [a, b]) := rfl
@[go_sem] theorem lit_A4 (a b c d : Int) : Value.agg #[.int .i64 a, .int .i64 b, .int .i64 c, .int .i64 d] = .agg (A [a, b, c, d]) := rfl
@[go_sem] theorem lit_A5 (a b c d e : Int) : Value.agg #[.int .i64 a, .int .i64 b, .int .i64 c, .int .i64 d, .int .i64 e] = .agg (A [a, b, c, d, e]) := rfl
@[go_sem] theorem lit_A7 (a b c d e f g : Int) : Value.agg #[.int .i64 a, .int .i64 b, .int .i64 c, .int .i64 d, .int .i64 e, .int .i64 f, .int .i64 g] = .agg (A [a, b, c, d, e, f, g]) := rfl
@[go_sem] theorem lit_A8 (a b c d e f g h : Int) : Value.agg #[.int .i64 a, .int .i64 b, .int .i64 c, .int .i64 d, .int .i64 e, .int .i64 f, .int .i64 g, .int .i64 h] = .agg (A [a, b, c, d, e, f, g, h]) := rfl
@[go_sem] theorem lit_A9 (a b c d e f g h i : Int) : Value.agg #[.int .i64 a, .int .i64 b, .int .i64 c, .int .i64 d, .int .i64 e, .int .i64 f, .int .i64 g, .int .i64 h, .int .i64 i] = .agg (A [a, b, c, d, e, f, g, h, i]) := rfl

/-- The number at a place; the element at a place. -/
def nth (l : List Int) (i : Nat) : Int := l.getD i 0
def el (L : List (List Int)) (i : Nat) : List Int := L.getD i []
theorem nth_eq {l : List Int} {i : Nat} (h : i < l.length) : nth l i = l[i] := by simp [nth, h]
theorem el_eq {L : List (List Int)} {i : Nat} (h : i < L.length) : el L i = L[i] := by simp [el, h]
theorem nth_mem {l : List Int} {i : Nat} (h : i < l.length) : nth l i ∈ l := by rw [nth_eq h]; exact List.getElem_mem h
theorem el_mem {L : List (List Int)} {i : Nat} (h : i < L.length) : el L i ∈ L := by rw [el_eq h]; exact List.getElem_mem h
theorem nth_set {l : List Int} {i j : Nat} {x : Int} (h : i < l.length) : nth (l.set i x) j = if i = j then x else nth l j := by
  unfold nth
  simp only [List.getD_eq_getElem?_getD, List.getElem?_set]
  by_cases hij : i = j
  · subst hij; simp [h]
  · simp [hij]
theorem run_index_flat {P : Program} {t e : TypeId} {n : Nat} (hu : P.underlying t = some (.array n e)) (he : P.underlying e = some (.int .i64)) (hf : flatAt P 1 e = true) (hc : P.cellsOf e = 1) (l : List Int) (hl : l.length = n) (i : Int) (h0 : 0 ≤ i) (h1 : i < n) (w : World) :
    (Instr.index t (.agg (A l)) (.int .i64 i)).run P w = .ok (.int .i64 (nth l i.toNat)) w := by
  have hp := run_part_flat (P := P) w (d := 1) (t := e) hf l i.toNat (by rw [hc]; omega)
  have hv : valOf P e ((l.drop i.toNat).take 1) = .int .i64 (nth l i.toNat) := by
    unfold valOf
    rw [he, List.drop_eq_getElem_cons (by omega), List.take_succ_cons, nth_eq (by omega)]
    rfl
  rw [hc, hv] at hp
  have hs := run_sizeOf w (P := P) (flat_info hf)
  rw [hc] at hs
  simp only [Instr.index, asIntOf, Sem.run_bind, Sem.run_pure, Result.andThen_ok, run_underlying hu]
  rw [if_pos ⟨h0, h1⟩]
  simp only [Sem.run_bind, hs, Result.andThen_ok, Nat.mul_one, hp]
@[simp high] theorem get_A_nth (l : List Int) (i : Nat) (h : i < l.length) : (A l)[i]? = some (.int .i64 (nth l i)) := by
  rw [get_A, List.getElem?_eq_getElem h, nth_eq h]
  rfl
/-- The greater of two numbers. -/
def mx (a b : Int) : Int := if b > a then b else a
@[simp high] theorem run_max_mx {P : Program} (w : World) (ts : Array TypeId) (t : TypeId) (k k' : IntKind) (x y : Int) : (Builtin.max_ ts t #[.int k x, .int k' y]).run P w = .ok (.int k (mx x y)) w := run_max_int2 w ts t k k' x y
/-- Eight numbers, the k-th of three. -/
def p8 (l : List Int) (k : Nat) : List Int := (l.take (8 * k + 8)).drop (8 * k)
/-! A booking: its 24 numbers, and the slice of its orders. -/
def bk (l : List Int) (s : Value) : Array Value := (A l).push s
@[go_sem] theorem size_bk (l : List Int) (s : Value) : (bk l s).size = l.length + 1 := by simp [bk, size_A]
@[simp high] theorem get_bk (l : List Int) (s : Value) (i : Nat) (h : i < l.length) : (bk l s)[i]? = some (.int .i64 (nth l i)) := by
  rw [bk, Array.getElem?_push, if_neg (by rw [size_A]; omega), get_A, List.getElem?_eq_getElem h, nth_eq h]
  rfl
theorem get_bk_s (l : List Int) (s : Value) (i : Nat) (h : l.length = i) : (bk l s)[i]? = some s := by
  rw [bk, Array.getElem?_push, if_pos (by rw [size_A]; omega)]
theorem extract_bk (l : List Int) (s : Value) (i j : Nat) (h : j ≤ l.length) : (bk l s).extract i j = A ((l.take j).drop i) := by
  rw [← extract_A]
  apply Array.ext_getElem?
  intro k
  simp only [Array.getElem?_extract, bk, Array.size_push, size_A, Array.getElem?_push]
  by_cases h1 : k < min j l.length - i
  · rw [if_pos h1, if_pos (by omega), if_neg (by omega)]
  · rw [if_neg h1, if_neg (by omega)]
@[simp high] theorem ext_bk0 (l : List Int) (s : Value) (h : l.length = 24) : (bk l s).extract 0 8 = A (p8 l 0) := extract_bk l s 0 8 (by omega)
@[simp high] theorem ext_bk8 (l : List Int) (s : Value) (h : l.length = 24) : (bk l s).extract 8 16 = A (p8 l 1) := extract_bk l s 8 16 (by omega)
@[simp high] theorem ext_bk16 (l : List Int) (s : Value) (h : l.length = 24) : (bk l s).extract 16 24 = A (p8 l 2) := extract_bk l s 16 24 (by omega)
@[go_sem] theorem len_p8 (l : List Int) (k : Nat) (h : l.length = 24) (hk : k < 3) : (p8 l k).length = 8 := by simp [p8]; omega
@[simp high] theorem get_bk24 (l : List Int) (s : Value) (h : l.length = 24) : (bk l s)[24]? = some s := by
  rw [bk, Array.getElem?_push, if_pos (by rw [size_A]; omega)]
theorem p8_ext {l m : List Int} (hl : l.length = 24) (hm : m.length = 24) (h0 : p8 l 0 = p8 m 0) (h1 : p8 l 1 = p8 m 1) (h2 : p8 l 2 = p8 m 2) : l = m := by
  have key : ∀ l : List Int, l.length = 24 → l = p8 l 0 ++ (p8 l 1 ++ p8 l 2) := by
    intro l hl
    simp only [p8]
    rw [List.take_of_length_le (i := 8 * 2 + 8) (by omega)]
    have e : l.drop 8 = (l.take (8 * 1 + 8)).drop (8 * 1) ++ l.drop (8 * 2) := by
      have := List.take_append_drop 8 (l.drop 8)
      rw [List.drop_drop] at this
      rw [List.drop_take]
      exact this.symm
    rw [← e]
    simp
  rw [key l hl, key m hm, h0, h1, h2]
@[simp high] theorem set_bk (l : List Int) (s : Value) (i : Nat) (x : Int) (h : i < l.length) : (bk l s).setIfInBounds i (.int .i64 x) = bk (l.set i x) s := by
  apply Array.ext_getElem?
  intro k
  rw [bk, Array.getElem?_setIfInBounds, bk, Array.getElem?_push, Array.getElem?_push, size_A, size_A, List.length_set, get_A, get_A, List.getElem?_set]
  by_cases h1 : i = k
  · subst h1
    rw [if_pos rfl, if_pos (by rw [Array.size_push, size_A]; omega), if_neg (by omega), if_pos rfl, if_pos h]
    rfl
  · rw [if_neg h1, if_neg h1]
theorem set_bk_s (l : List Int) (s s' : Value) (i : Nat) (h : l.length = i) : (bk l s).setIfInBounds i s' = bk l s' := by
  apply Array.ext_getElem?
  intro k
  rw [bk, Array.getElem?_setIfInBounds, bk, Array.getElem?_push, Array.getElem?_push, size_A]
  by_cases h1 : i = k
  · rw [if_pos h1, if_pos (by rw [Array.size_push, size_A]; omega), if_pos (by omega)]
  · rw [if_neg h1, if_neg (by omega), if_neg (by omega)]
theorem plain_bk (l : List Int) (s : Value) (h : s.oneCell' = true) : Plain (bk l s) := by
  intro v hv
  rcases Array.mem_push.1 hv with h' | h'
  · exact plain_A l v h'
  · rw [h']; exact h
@[go_sem] theorem plain_bk_slice (l : List Int) (a : Option Addr) (n c : Nat) : Plain (bk l (.slice a n c)) := plain_bk l _ rfl
theorem bk_inj {l m : List Int} {s s' : Value} (h : bk l s = bk m s') : l = m ∧ s = s' := by
  have h1 := congrArg Array.toList h
  simp only [bk, A, Array.toList_push] at h1
  have h2 := List.append_inj' h1 rfl
  exact ⟨A_inj (by simp [A, h2.1]), by simpa using h2.2⟩
end Go.Proofs.Ytebflegkdfhoaaa
