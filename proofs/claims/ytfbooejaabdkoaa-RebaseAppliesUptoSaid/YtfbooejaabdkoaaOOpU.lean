/-
 Arguments of nested types, with what a bound on the whole input says of the lengths of their slices. Conditions: none; every lemma names its own.
-/
import Derived.Test.YtfbooejaabdkoaaOOp
import Derived.Test.YtfbooejaabdkoaaRows
set_option linter.constructorNameAsVariable false
namespace Go.Proofs.Ytfbooejaabdkoaa.AE
open Go Go.Proofs Go.RowKit Go.ChangeShapes Go.WideShapes Go.ChangeAt Go.Deep
set_option linter.unusedVariables false
theorem bulk_one {H : Type} (d : DataW H) : 1 ≤ Rows.uptoBulk d := by
 cases d with
 | lit l => cases l <;> simp [Rows.uptoBulk]
 | nil => simp [Rows.uptoBulk]
 | ptr d => simp [Rows.uptoBulk]
 | slice elems spare => simp [Rows.uptoBulk]
 | agg parts => simp [Rows.uptoBulk]
 | iface t d => simp [Rows.uptoBulk]
 | map entries => simp [Rows.uptoBulk]
 | held h => simp [Rows.uptoBulk]
theorem bulk_len {H : Type} : ∀ l : List (DataW H), l.length ≤ Rows.uptoBulkAll l
 | [] => Nat.zero_le _
 | x :: r => by
  have h1 := bulk_one x
  have h2 := bulk_len r
  simp only [Rows.uptoBulkAll, List.length_cons]
  omega
theorem bulk_slice {H : Type} (elems spare : List (DataW H)) : elems.length ≤ Rows.uptoBulk (.slice elems spare) := by
 have h1 := bulk_len elems
 simp only [Rows.uptoBulk]
 omega
theorem rep_sl_len {w : World} {M : Nat → Prop} {μ : Lay} {G : Heap} {k n c : Nat} {X : List (List AV)} {a : Option Addr} (h : Rep w M μ G (.sl k X) (.slice a n c)) : X.length = n := by
 cases h; rfl
section
variable {H : Type} {enc : TypeId × Value → H} {P : Program} {w : World}
def OpnB (enc : TypeId × Value → H) (P : Program) (w : World) (t : TypeId) {α : Type} (c : α → List AV) (B : α → Nat) : Prop :=
 ∀ fuel cs x, DataW.trod enc P w 0 (fun _ => true) true fuel t cs = some x → ∃ a : α, RC w (c a) cs ∧ B a ≤ Rows.uptoBulk x.1
theorem opB_flat {t : TypeId} {α : Type} {c : α → List AV} (h : Opn enc P w t c) : OpnB enc P w t c (fun _ => 0) := fun fuel cs x hx => by
 obtain ⟨a, ha⟩ := h fuel cs x hx
 exact ⟨a, ha, Nat.zero_le _⟩
theorem opB_slice {t e : TypeId} {k : Nat} {α : Type} {c : α → List AV} (ht : P.underlying t = some (.slice e)) (h : Opn enc P w t (fun L : List α => [.sl k (rows c L)])) : OpnB enc P w t (fun L : List α => [.sl k (rows c L)]) (fun L => L.length) := by
 intro fuel cs x hx
 obtain ⟨L, hL⟩ := h fuel cs x hx
 refine ⟨L, hL, ?_⟩
 rcases open_slice ht hx with ⟨rfl, rfl⟩ | ⟨a', len, m, m', n, D, Pl, rfl, _, hl, hm, hmm, rfl, hel⟩
 ·
  have := rep_sl_len (hL.2 0 _ _ rfl rfl).1
  have e : (rows c L).length = L.length := by simp [rows]
  have hz : L.length = 0 := by omega
  show L.length ≤ _
  rw [hz]
  exact Nat.zero_le _
 ·
  have := rep_sl_len (hL.2 0 _ _ rfl rfl).1
  have e : (rows c L).length = L.length := by simp [rows]
  have hb := bulk_slice ((List.range len).map D) ((List.range (m' - len)).map fun j => D (len + j))
  simp only [List.length_map, List.length_range] at hb
  show L.length ≤ Rows.uptoBulk (.slice ((List.range len).map D) ((List.range (m' - len)).map fun j => D (len + j)))
  omega
theorem opB_struct2 {t : TypeId} {f0 f1 : Field} {n0 n1 : Nat} {α β γ : Type} {c0 : α → List AV} {c1 : β → List AV} {c : γ → List AV} {B0 : α → Nat} {B1 : β → Nat} {B : γ → Nat} (hu : P.underlying t = some (.struct #[f0, f1])) (hc : P.cellsOf t = n0 + n1)
  (h0 : f0.offset = 0 ∧ P.cellsOf f0.type = n0) (h1 : f1.offset = n0 ∧ P.cellsOf f1.type = n1) (o0 : OpnB enc P w f0.type c0 B0) (o1 : OpnB enc P w f1.type c1 B1) (hj : ∀ a b, ∃ x, c x = c0 a ++ c1 b ∧ B x ≤ B0 a + B1 b) : OpnB enc P w t c B := by
 intro fuel cs x h
 obtain ⟨xs, n, _, rfl, hl, hxl, hel⟩ := DataW.trod_struct hu h
 have hx : xs.length = 2 := hxl
 have e0 := hel 0 f0 rfl
 have e1 := hel 1 f1 rfl
 rw [h0.1, h0.2] at e0
 rw [h1.1, h1.2] at e1
 match xs, hx with
 | [x0, x1], _ =>
  obtain ⟨a, ra, ba⟩ := o0 n _ _ e0
  obtain ⟨b, rb, bb⟩ := o1 n _ _ e1
  obtain ⟨y, hy, hB⟩ := hj a b
  refine ⟨y, ?_, ?_⟩
  ·
   rw [hy, cut2 (l := cs) (a := n0) (b := n1) (by omega)]
   exact RC.append (by simpa using ra) rb
  ·
   simp only [List.map_cons, List.map_nil, Rows.uptoBulk, Rows.uptoBulkAll]
   omega
theorem opB_struct3 {t : TypeId} {f0 f1 f2 : Field} {n0 n1 n2 : Nat} {α β δ γ : Type} {c0 : α → List AV} {c1 : β → List AV} {c2 : δ → List AV} {c : γ → List AV} {B0 : α → Nat} {B1 : β → Nat} {B2 : δ → Nat} {B : γ → Nat} (hu : P.underlying t = some (.struct #[f0, f1, f2])) (hc : P.cellsOf t = n0 + (n1 + n2))
  (h0 : f0.offset = 0 ∧ P.cellsOf f0.type = n0) (h1 : f1.offset = n0 ∧ P.cellsOf f1.type = n1) (h2 : f2.offset = n0 + n1 ∧ P.cellsOf f2.type = n2) (o0 : OpnB enc P w f0.type c0 B0) (o1 : OpnB enc P w f1.type c1 B1) (o2 : OpnB enc P w f2.type c2 B2) (hj : ∀ a b d, ∃ x, c x = c0 a ++ (c1 b ++ c2 d) ∧ B x ≤ B0 a + B1 b + B2 d) : OpnB enc P w t c B := by
 intro fuel cs x h
 obtain ⟨xs, n, _, rfl, hl, hxl, hel⟩ := DataW.trod_struct hu h
 have hx : xs.length = 3 := hxl
 have e0 := hel 0 f0 rfl
 have e1 := hel 1 f1 rfl
 have e2 := hel 2 f2 rfl
 rw [h0.1, h0.2] at e0
 rw [h1.1, h1.2] at e1
 rw [h2.1, h2.2] at e2
 match xs, hx with
 | [x0, x1, x2], _ =>
  obtain ⟨a, ra, ba⟩ := o0 n _ _ e0
  obtain ⟨b, rb, bb⟩ := o1 n _ _ e1
  obtain ⟨d, rd, bd⟩ := o2 n _ _ e2
  obtain ⟨y, hy, hB⟩ := hj a b d
  refine ⟨y, ?_, ?_⟩
  ·
   have hcut : cs = cs.take n0 ++ ((cs.drop n0).take n1 ++ (cs.drop (n0 + n1)).take n2) := by
    rw [← List.drop_drop, ← cut2 (l := cs.drop n0) (by simp; omega), List.take_append_drop]
   rw [hy, hcut]
   exact RC.append (by simpa using ra) (RC.append rb rd)
  ·
   simp only [List.map_cons, List.map_nil, Rows.uptoBulk, Rows.uptoBulkAll]
   omega
theorem open_opB {r : Reach} {b0 : Nat} {t : TypeId} {v : Value} {d : DataW H} {p : List MemPlace} {α : Type} {c : α → List AV} {B : α → Nat} (ho : OpnB enc P w t c B) (ha : (match P.underlying t with | some (.array _ _) | some (.struct _) => true | _ => false) = true)
  (hv : Value.okWide P w r b0 t v) (h : DataW.Trod enc P w 0 (fun _ => true) true t v d p) : ∃ a : α, Rep w (fun _ => False) noLay noH (.agg (c a)) v ∧ B a ≤ Rows.uptoBulk d := by
 have hagg : ∃ cs, v = .agg cs := by
  unfold Value.okWide at hv
  split at hv
  · obtain ⟨cs, h, _⟩ := hv; exact ⟨cs, h⟩
  · obtain ⟨cs, h, _⟩ := hv; exact ⟨cs, h⟩
  ·
   rename_i h1 h2
   split at ha
   · rename_i hu; exact absurd hu (by simp_all)
   · rename_i hu; exact absurd hu (by simp_all)
   · simp at ha
 obtain ⟨cs, rfl⟩ := hagg
 obtain ⟨fuel, hfu⟩ := h
 obtain ⟨a, ra, rb⟩ := ho fuel _ _ hfu
 exact ⟨a, ra.agg, rb⟩
theorem slice_bulk {t e : TypeId} {n c : Nat} {a : Option Addr} {d : DataW H} {p : List MemPlace} (ht : P.underlying t = some (.slice e)) (h : DataW.Trod enc P w 0 (fun _ => true) true t (.slice a n c) d p) : n ≤ Rows.uptoBulk d := by
 obtain ⟨fuel, hfu⟩ := h
 rcases open_slice ht hfu with ⟨hc, hx⟩ | ⟨a', len, m, m', n', D, Pl, hc, _, hl, hm, hmm, hx, hel⟩
 ·
  have : (Value.slice a n c) = .slice none 0 0 := by simpa [Value.cells] using hc
  cases this
  exact Nat.zero_le _
 ·
  have hv : (Value.slice a n c) = .slice (some a') len m := by simpa [Value.cells] using hc
  have hn : n = len := by simp only [Value.slice.injEq] at hv; exact hv.2.1
  have hb := bulk_slice ((List.range len).map D) ((List.range (m' - len)).map fun j => D (len + j))
  simp only [List.length_map, List.length_range] at hb
  have hd : d = .slice ((List.range len).map D) ((List.range (m' - len)).map fun j => D (len + j)) := congrArg Prod.fst hx
  rw [hd, hn]
  exact hb
end
end Go.Proofs.Ytfbooejaabdkoaa.AE
