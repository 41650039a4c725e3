/-
  What a law's arguments are told to be, from their reading: numbers, structs and arrays of numbers, slices of those, a booking. Conditions: none; every lemma names its own.
-/
import Derived.Test.YtebflegkdfhoaaaCore2
import Derived.Lib.Hide
import Derived.ProofKit
import Derived.OpenShut
import Derived.ChangeOld
import Derived.Deep.Slices
import Derived.Deep.Fields
namespace Go.Proofs.Ytebflegkdfhoaaa
open Go.RowKit Go.ChangeShapes Go.WideShapes Go.ChangeAt Go.Deep

/-- A number that an int64 can hold. -/
def I64 (x : Int) : Prop := -9223372036854775808 ≤ x ∧ x ≤ 9223372036854775807
instance (x : Int) : Decidable (I64 x) := by unfold I64; infer_instance
/-- Cells that are ints, each in its range. -/
def Ints (cs : List Value) : Prop := ∀ v ∈ cs, ∃ z, v = .int .i64 z ∧ I64 z
theorem Ints.list {cs : List Value} (h : Ints cs) : ∃ l : List Int, cs = l.map (Value.int .i64) ∧ ∀ x ∈ l, I64 x := by
  induction cs with
  | nil => exact ⟨[], rfl, by simp⟩
  | cons v r ih =>
    obtain ⟨z, rfl, hz⟩ := h v (by simp)
    obtain ⟨l, rfl, hl⟩ := ih (fun u hu => h u (by simp [hu]))
    exact ⟨z :: l, rfl, by simpa using ⟨hz, hl⟩⟩
theorem Ints.split {cs : List Value} {n : Nat} (h1 : Ints (cs.take n)) (h2 : Ints (cs.drop n)) : Ints cs := by
  intro v hv
  rw [← List.take_append_drop n cs, List.mem_append] at hv
  exact hv.elim (h1 v) (h2 v)
theorem I64.of_wf {x : Int} (h : (Lit.int .i64 x).wf = true) : I64 x := by
  unfold I64
  simp [Lit.wf] at h
  first | omega | (simp [IntKind.min, IntKind.signed, IntKind.bits] at h; omega)
section
variable {H : Type} {enc : TypeId × Value → H} {P : Program} {w : World} {base : Nat} {spare : Nat → Bool} {held : Bool}
theorem ints_of_trod : ∀ (d : Nat) (t : TypeId) (fuel : Nat) (cs : List Value) (x : DataW H × List MemPlace), flatAt P d t = true → DataW.trod enc P w base spare held fuel t cs = some x → Ints cs ∧ cs.length = P.cellsOf t := by
  intro d
  induction d with
  | zero => intro t fuel cs x h; simp [flatAt] at h
  | succ d ih =>
    intro t fuel cs x h hx
    have hi := flat_info h
    unfold flatAt at h
    simp only [Bool.and_eq_true] at h
    obtain ⟨_, h⟩ := h
    split at h
    · rename_i hu
      have hc : P.cellsOf t = 1 := by simpa using h
      obtain ⟨n, rfl, _, hw⟩ := DataW.trod_int hu hx
      exact ⟨by intro v hv; simp at hv; exact ⟨n, hv, I64.of_wf hw⟩, by simp [hc]⟩
    · rename_i n el hu
      simp only [Bool.and_eq_true, beq_iff_eq] at h
      obtain ⟨hc, hf⟩ := h
      obtain ⟨xs, m, _, _, hl, hxl, hel⟩ := DataW.trod_array hu hx
      refine ⟨?_, hl⟩
      have key : ∀ (r k : Nat), k + r = n → Ints (cs.drop (k * P.cellsOf el)) := by
        intro r
        induction r with
        | zero =>
          intro k hk
          rw [List.drop_eq_nil_of_le (by rw [hl, hc, ← hk, Nat.add_zero]; exact Nat.le_refl _)]
          intro v hv; simp at hv
        | succ r ihr =>
          intro k hk
          have h1 := hel k (by omega)
          have h2 : xs[k]? = some (xs[k]'(by omega)) := List.getElem?_eq_getElem (by omega)
          refine Ints.split (n := P.cellsOf el) (ih el m _ _ hf (h1.trans h2)).1 ?_
          rw [List.drop_drop, ← Nat.succ_mul]
          exact ihr (k + 1) (by omega)
      have := key n 0 (by omega)
      simpa using this
    · rename_i fs hu
      simp only [Bool.and_eq_true, Bool.not_eq_true'] at h
      obtain ⟨⟨hst, ht⟩, hf⟩ := h
      obtain ⟨xs, m, _, _, hl, hxl, hel⟩ := DataW.trod_struct hu hx
      refine ⟨?_, hl⟩
      have key : ∀ (fl : List Field) (k off : Nat), fs.toList.drop k = fl → tiles P off (P.cellsOf t) fl = true → Ints (cs.drop off) := by
        intro fl
        induction fl with
        | nil =>
          intro k off _ h1
          simp only [tiles, beq_iff_eq] at h1
          rw [List.drop_eq_nil_of_le (by omega)]
          intro v hv; simp at hv
        | cons f fl ihf =>
          intro k off hk h1
          simp only [tiles, Bool.and_eq_true, beq_iff_eq, bne_iff_ne, ne_eq] at h1
          obtain ⟨⟨ho, hn⟩, h1⟩ := h1
          have hkl : k < fs.toList.length := by
            rcases Nat.lt_or_ge k fs.toList.length with h' | h'
            · exact h'
            · rw [List.drop_eq_nil_of_le h'] at hk; simp at hk
          rw [List.drop_eq_getElem_cons hkl] at hk
          have hfk : fs[k]? = some f := by
            rw [← Array.getElem?_toList, List.getElem?_eq_getElem hkl]
            exact congrArg some (List.cons.inj hk).1
          have hff : flatAt P d f.type = true := by
            rw [List.all_eq_true] at hf
            exact hf f (by rw [← (List.cons.inj hk).1]; exact List.getElem_mem hkl)
          have h2 := hel k f hfk
          have h3 : xs[k]? = some (xs[k]'(by rw [hxl]; simpa using hkl)) := List.getElem?_eq_getElem _
          rw [ho] at h2
          refine Ints.split (n := P.cellsOf f.type) (ih f.type m _ _ hff (h2.trans h3)).1 ?_
          rw [List.drop_drop]
          exact ihf (k + 1) _ (List.cons.inj hk).2 h1
      have := key fs.toList 0 0 rfl ht
      simpa using this
    · simp at h
theorem open_flat {r : Reach} {b0 d0 n : Nat} {t : TypeId} {v : Value} {d : DataW H} {p : List MemPlace} (hf : flatAt P d0 t = true) (hn : P.cellsOf t = n) (ha : (match P.underlying t with | some (.array _ _) | some (.struct _) => true | _ => false) = true)
    (hv : Value.okWide P w r b0 t v) (h : DataW.Trod enc P w base spare held t v d p) : ∃ l : List Int, v = .agg (A l) ∧ l.length = n ∧ ∀ x ∈ l, I64 x := by
  have hagg : ∃ cs, v = .agg cs := by
    unfold Value.okWide at hv
    split at hv
    · obtain ⟨cs, h, _⟩ := hv; exact ⟨cs, h⟩
    · obtain ⟨cs, h, _⟩ := hv; exact ⟨cs, h⟩
    · rename_i h1 h2
      split at ha
      · rename_i hu; exact absurd hu (by simp_all)
      · rename_i hu; exact absurd hu (by simp_all)
      · simp at ha
  obtain ⟨cs, rfl⟩ := hagg
  obtain ⟨fuel, hfu⟩ := h
  obtain ⟨hi, hl⟩ := ints_of_trod d0 t fuel _ _ hf hfu
  obtain ⟨l, hl1, hl2⟩ := hi.list
  refine ⟨l, ?_, ?_, hl2⟩
  · congr 1
    apply Array.ext'
    simpa [Value.cells, A] using hl1
  · rw [← hn, ← hl, hl1, List.length_map]
end

/-- A slice of structs of k ints each, in memory below block B: its elements L. -/
def SlK (B k : Nat) (w : World) (a : Option Addr) (L : List (List Int)) : Prop :=
  (∀ l ∈ L, l.length = k ∧ ∀ x ∈ l, I64 x) ∧
  ∀ i, i < L.length → ∃ b off, a = some ⟨b, off, none⟩ ∧ b < B ∧ off + i * k + k ≤ (row w b).size ∧ (row w b).extract (off + i * k) (off + i * k + k) = A (el L i)
theorem row_below {B : Nat} {w w' : World} (h : Below B w w') {b : Nat} (hb : b < B) : row w' b = row w b := by
  simp only [row, h.block b hb]
theorem SlK.below {B k : Nat} {w w' : World} {a : Option Addr} {L : List (List Int)} (h : SlK B k w a L) (hb : Below B w w') : SlK B k w' a L :=
  ⟨h.1, fun i hi => by
    obtain ⟨b, off, h1, h2, h3, h4⟩ := h.2 i hi
    exact ⟨b, off, h1, h2, by rw [row_below hb h2]; exact h3, by rw [row_below hb h2]; exact h4⟩⟩
theorem SlK.mono {B B' k : Nat} {w : World} {a : Option Addr} {L : List (List Int)} (h : SlK B k w a L) (hb : B ≤ B') : SlK B' k w a L :=
  ⟨h.1, fun i hi => by
    obtain ⟨b, off, h1, h2, h3, h4⟩ := h.2 i hi
    exact ⟨b, off, h1, Nat.lt_of_lt_of_le h2 hb, h3, h4⟩⟩
theorem SlK.adds {B k : Nat} {w w' : World} {a : Option Addr} {L : List (List Int)} (h : SlK B k w a L) (hB : B ≤ w.heap.size) (hb : Adds w w') : SlK B k w' a L := h.below (hb.below.mono hB)
theorem SlK.len {B k : Nat} {w : World} {a : Option Addr} {L : List (List Int)} (h : SlK B k w a L) {i : Nat} (hi : i < L.length) : (el L i).length = k := (h.1 _ (el_mem hi)).1
theorem SlK.cell {B k : Nat} {w : World} {a : Option Addr} {L : List (List Int)} (h : SlK B k w a L) {i : Nat} (hi : i < L.length) : ∃ b off, a = some ⟨b, off, none⟩ ∧ b < B ∧ ∀ j, j < k → w.cell? ⟨b, off + i * k + j, none⟩ = some (.int .i64 (nth (el L i) j)) := by
  obtain ⟨b, off, h1, h2, h3, h4⟩ := h.2 i hi
  refine ⟨b, off, h1, h2, fun j hj => ?_⟩
  have hl := h.len hi
  have := congrArg (·[j]?) h4
  simp only [Array.getElem?_extract, get_A] at this
  rw [if_pos (by omega), List.getElem?_eq_getElem (by omega)] at this
  rw [cell?_row, this, nth_eq (by omega)]
  rfl
section
variable {H : Type} {enc : TypeId × Value → H} {P : Program} {w : World}
theorem cells_rows {base n : Nat} : ∀ {a : Addr} {cs : List Value}, w.cells? base a n = some cs → 0 < n → ∃ b off, a = ⟨b, off, none⟩ ∧ b < w.heap.size ∧ off + n ≤ (row w b).size ∧ (row w b).extract off (off + n) = cs.toArray := by
  intro a cs h hn
  obtain ⟨_, hl, hat⟩ := World.cells?_some h
  obtain ⟨b, off, sp⟩ := a
  have h0 := hat 0 hn
  rw [List.getElem?_eq_getElem (by omega)] at h0
  have hsp : sp = none := by
    have := World.cell?_spot h0
    simpa [Addr.add] using this
  subst hsp
  have hcell : ∀ j, j < n → (row w b)[off + j]? = cs[j]? := by
    intro j hj
    have := hat j hj
    rw [← cell?_row]
    have hadd : (⟨b, off, none⟩ : Addr).add j = ⟨b, off + j, none⟩ := by unfold Addr.add; split <;> simp_all
    rw [hadd] at this
    exact this
  have hsz : off + n ≤ (row w b).size := by
    have := hcell (n - 1) (by omega)
    rw [List.getElem?_eq_getElem (by omega)] at this
    have := (Array.getElem?_eq_some_iff.1 this).1
    omega
  refine ⟨b, off, rfl, World.block_lt_of_cell? w _ (by simpa [Addr.add] using h0), hsz, ?_⟩
  apply Array.ext_getElem?
  intro j
  rw [Array.getElem?_extract]
  by_cases hj : j < n
  · rw [if_pos (by omega), hcell j hj]; simp
  · rw [if_neg (by omega)]; simp; omega
theorem slk_of_trod {d0 k fuel : Nat} {t e : TypeId} {cs : List Value} {x : DataW H × List MemPlace} (ht : P.underlying t = some (.slice e)) (hf : flatAt P d0 e = true) (hk : P.cellsOf e = k) (h0 : 0 < k)
    (hfu : DataW.trod enc P w 0 (fun _ => true) true fuel t cs = some x) : ∃ (a : Option Addr) (cap : Nat) (L : List (List Int)), cs = [.slice a L.length cap] ∧ L.length ≤ cap ∧ cap ≤ maxLen ∧ SlK w.heap.size k w a L := by
  rcases open_slice ht hfu with ⟨rfl, _⟩ | ⟨a', len, m, m', n, D, Pl, rfl, _, hl, hm, hmm, _, hel⟩
  · exact ⟨none, 0, [], rfl, Nat.le_refl _, Nat.zero_le _, by simp, fun i hi => by simp at hi⟩
  · simp only [if_true] at hmm
    subst hmm
    have hx : ∀ i, i < len → ∃ l : List Int, (l.length = k ∧ ∀ x ∈ l, I64 x) ∧ ∃ b off, a' = ⟨b, off, none⟩ ∧ b < w.heap.size ∧ off + i * k + k ≤ (row w b).size ∧ (row w b).extract (off + i * k) (off + i * k + k) = A l := by
      intro i hi
      obtain ⟨cs', hc, htr⟩ := hel i (by omega)
      obtain ⟨hi1, hi2⟩ := ints_of_trod d0 e _ _ _ hf htr
      obtain ⟨l, rfl, hl2⟩ := hi1.list
      obtain ⟨b, off, hadd, hb, hsz, hex⟩ := cells_rows hc (by omega)
      rw [hk] at hadd hsz hex
      refine ⟨l, ⟨by rw [← hk, ← hi2, List.length_map], hl2⟩, ?_⟩
      obtain ⟨b', off', sp'⟩ := a'
      have h00 := hel 0 (by omega)
      obtain ⟨cs0, hc0, _⟩ := h00
      obtain ⟨b1, off1, hadd0, _, _, _⟩ := cells_rows hc0 (by omega)
      rw [Nat.zero_mul] at hadd0
      have : (⟨b', off', sp'⟩ : Addr).add 0 = ⟨b', off', sp'⟩ := by simp [Addr.add]
      rw [this] at hadd0
      obtain ⟨rfl, rfl, rfl⟩ := Addr.mk.inj hadd0
      have hadd2 : (⟨b', off', none⟩ : Addr).add (i * k) = ⟨b', off' + i * k, none⟩ := by unfold Addr.add; split <;> simp_all
      rw [hadd2] at hadd
      obtain ⟨rfl, rfl, _⟩ := Addr.mk.inj hadd
      exact ⟨b', off', rfl, hb, hsz, hex⟩
    obtain ⟨f, hf'⟩ := choose_lt hx
    refine ⟨some a', m', (List.range len).map f, by simp, by simpa using hl, hm, ?_, ?_⟩
    · intro l hl'
      simp only [List.mem_map, List.mem_range] at hl'
      obtain ⟨i, hi, rfl⟩ := hl'
      exact (hf' i hi).1
    · intro i hi
      simp only [List.length_map, List.length_range] at hi
      obtain ⟨b, off, h1, h2, h3, h4⟩ := (hf' i hi).2
      exact ⟨b, off, by rw [h1], h2, h3, by rw [h4]; congr 1; simp [el, hi]⟩
theorem open_slk {r : Reach} {b0 d0 k : Nat} {t e : TypeId} {v : Value} {d : DataW H} {p : List MemPlace} (ht : P.underlying t = some (.slice e)) (hf : flatAt P d0 e = true) (hk : P.cellsOf e = k) (h0 : 0 < k)
    (hv : Value.okWide P w r b0 t v) (h : DataW.Trod enc P w 0 (fun _ => true) true t v d p) : ∃ (a : Option Addr) (cap : Nat) (L : List (List Int)), v = .slice a L.length cap ∧ L.length ≤ cap ∧ cap ≤ maxLen ∧ SlK w.heap.size k w a L := by
  obtain ⟨a, len, cap, rfl⟩ := okWide_slice ht hv
  obtain ⟨fuel, hfu⟩ := h
  obtain ⟨a', cap', L, hcs, h1⟩ := slk_of_trod ht hf hk h0 hfu
  exact ⟨a', cap', L, by simpa [Value.cells] using hcs, h1⟩
/-- A booking: its 24 numbers, and its orders. -/
theorem open_book {r : Reach} {b0 d0 k : Nat} {t t8 ts te : TypeId} {f0 f1 f2 f3 : Field} {v : Value} {d : DataW H} {p : List MemPlace} (hu : P.underlying t = some (.struct #[f0, f1, f2, f3])) (hc : P.cellsOf t = 25)
    (h0 : f0.offset = 0 ∧ f0.type = t8) (h1 : f1.offset = 8 ∧ f1.type = t8) (h2 : f2.offset = 16 ∧ f2.type = t8) (h3 : f3.offset = 24 ∧ f3.type = ts) (h8 : flatAt P d0 t8 = true) (hc8 : P.cellsOf t8 = 8)
    (hs : P.underlying ts = some (.slice te)) (hcs : P.cellsOf ts = 1) (hf : flatAt P d0 te = true) (hk : P.cellsOf te = k) (hk0 : 0 < k)
    (hv : Value.okWide P w r b0 t v) (h : DataW.Trod enc P w 0 (fun _ => true) true t v d p) :
    ∃ (l : List Int) (a : Option Addr) (cap : Nat) (L : List (List Int)), v = .agg (bk l (.slice a L.length cap)) ∧ l.length = 24 ∧ (∀ x ∈ l, I64 x) ∧ L.length ≤ cap ∧ cap ≤ maxLen ∧ SlK w.heap.size k w a L := by
  obtain ⟨cs, rfl, hsz, hrow⟩ : ∃ cs, v = .agg cs ∧ cs.size = 25 ∧ Row.okWide P w r b0 t cs := by
    simp only [Value.okWide, hu, hc] at hv
    exact hv
  obtain ⟨fuel, hfu⟩ := h
  obtain ⟨xs, n, _, _, hl, hxl, hel⟩ := DataW.trod_struct hu hfu
  simp only [Value.cells] at hl hel
  have e0 := hel 0 f0 rfl
  have e1 := hel 1 f1 rfl
  have e2 := hel 2 f2 rfl
  have e3 := hel 3 f3 rfl
  rw [h0.1, h0.2, hc8] at e0
  rw [h1.1, h1.2, hc8] at e1
  rw [h2.1, h2.2, hc8] at e2
  rw [h3.1, h3.2, hcs] at e3
  have hx : xs.length = 4 := hxl
  have i0 := (ints_of_trod d0 t8 n _ _ h8 (e0.trans (List.getElem?_eq_getElem (by omega)))).1
  have i1 := (ints_of_trod d0 t8 n _ _ h8 (e1.trans (List.getElem?_eq_getElem (by omega)))).1
  have i2 := (ints_of_trod d0 t8 n _ _ h8 (e2.trans (List.getElem?_eq_getElem (by omega)))).1
  have hls : cs.toList.length = 25 := by simpa using hsz
  have hI : Ints (cs.toList.take 24) := by
    refine Ints.split (n := 8) (by simpa [List.take_take] using i0) ?_
    refine Ints.split (n := 8) ?_ ?_
    · rw [List.drop_take, List.take_take]; simpa using i1
    · rw [List.drop_drop, List.drop_take]; simpa using i2
  obtain ⟨l, hl1, hl2⟩ := hI.list
  have hlen : l.length = 24 := by
    have := congrArg List.length hl1
    simp at this
    omega
  have hd : (cs.toList.drop 24).take 1 = [cs.toList[24]'(by omega)] := by
    rw [List.drop_eq_getElem_cons (by omega)]; rfl
  rw [hd] at e3
  obtain ⟨a, cap, L, q1, q2, q3, q4⟩ := slk_of_trod hs hf hk hk0 (e3.trans (List.getElem?_eq_getElem (by omega)))
  refine ⟨l, a, cap, L, ?_, hlen, hl2, q2, q3, q4⟩
  congr 1
  apply Array.ext'
  have : cs.toList = cs.toList.take 24 ++ [cs.toList[24]'(by omega)] := by
    have h25 : cs.toList.drop 24 = [cs.toList[24]'(by omega)] := by
      rw [List.drop_eq_getElem_cons (by omega), List.drop_eq_nil_of_le (by omega)]
    rw [← h25, List.take_append_drop]
  rw [this, hl1, q1]
  simp [bk, A]
end
end Go.Proofs.Ytebflegkdfhoaaa
