/-
 Arguments as they are read, as values of the plain machine; a law's walk from its contract. Conditions: none; every lemma names its own.
-/
import Derived.Test.YtebflegkdfhoaaaPe
set_option linter.constructorNameAsVariable false
namespace Go.Proofs.Ytebflegkdfhoaaa.AE
open Go Go.Proofs Go.RowKit
set_option linter.unusedVariables false
set_option linter.unusedSimpArgs false
set_option maxRecDepth 100000
theorem ex_Id : ∀ l : List Int, l.length = 2 → ∃ x : Id, AI l = cId x
 | [a, b], _ => ⟨⟨a, b⟩, rfl⟩
theorem ex_Chg : ∀ l : List Int, l.length = 9 → ∃ x : Chg, AI l = cChg x
 | [a, b, c, d, e, f, g, h, i], _ => ⟨⟨⟨a, b⟩, c, d, e, f, g, ⟨h, i⟩⟩, rfl⟩
theorem ex_Ord : ∀ l : List Int, l.length = 7 → ∃ x : Ord, AI l = cOrd x
 | [a, b, c, d, e, f, g], _ => ⟨⟨⟨a, b⟩, c, d, e, f, g⟩, rfl⟩
theorem ex_Eff : ∀ l : List Int, l.length = 5 → ∃ x : Eff, AI l = cEff x
 | [a, b, c, d, e], _ => ⟨⟨a, b, c, ⟨d, e⟩⟩, rfl⟩
theorem ex_Op : ∀ l : List Int, l.length = 12 → ∃ x : Op, AI l = cOp x
 | [k, a, b, c, d, e, f, g, h, i, j, m], _ => ⟨⟨k, ⟨⟨a, b⟩, c, d, e, f, g, ⟨h, i⟩⟩, ⟨j, m⟩⟩, rfl⟩
theorem ex_Int : ∀ l : List Int, l.length = 1 → ∃ x : Int, AI l = cInt x
 | [a], _ => ⟨a, rfl⟩
theorem ex_rows {α : Type} {k : Nat} {c : α → List AV} (h : ∀ l : List Int, l.length = k → ∃ x, AI l = c x) : ∀ {L : List (List Int)}, (∀ l ∈ L, l.length = k) → ∃ os : List α, RI L = rows c os ∧ os.length = L.length
 | [], _ => ⟨[], rfl, rfl⟩
 | l :: L, hL => by
  obtain ⟨x, hx⟩ := h l (hL l (by simp))
  obtain ⟨os, h1, h2⟩ := ex_rows (L := L) h fun l' hl => hL l' (List.mem_cons_of_mem _ hl)
  refine ⟨x :: os, ?_, by simp [h2]⟩
  show AI l :: RI L = c x :: rows c os
  rw [hx, h1]
theorem slk_rows {α : Type} {k : Nat} {c : α → List AV} (hc : ∀ l : List Int, l.length = k → ∃ x, AI l = c x) {w : World} {a : Option Addr} {L : List (List Int)} {cap : Nat} (h : SlK w.heap.size k w a L) (h1 : L.length ≤ cap) (h2 : cap ≤ maxLen) :
  ∃ os : List α, os.length = L.length ∧ Rep w (fun _ => False) noLay noH (.sl k (rows c os)) (.slice a L.length cap) := by
 obtain ⟨os, e1, e2⟩ := ex_rows hc (fun l hl => (h.1 l hl).1)
 exact ⟨os, e2, e1 ▸ slk_rep h h1 h2⟩
theorem agg_rep {α : Type} {k : Nat} {c : α → List AV} (hc : ∀ l : List Int, l.length = k → ∃ x, AI l = c x) (w : World) {l : List Int} (h : l.length = k) : ∃ x : α, Rep w (fun _ => False) noLay noH (.agg (c x)) (.agg (A l)) := by
 obtain ⟨x, hx⟩ := hc l h
 exact ⟨x, hx ▸ AI_rep w _ _ _ l⟩
theorem ex_V {n : Nat} (l : List Int) (h : l.length = n) : ∃ v : Vn n, AI l = cV v := ⟨⟨l, h⟩, rfl⟩
theorem book_rep {w : World} {l : List Int} {a : Option Addr} {cap : Nat} {L : List (List Int)} (hl : l.length = 24) (h1 : L.length ≤ cap) (h2 : cap ≤ maxLen) (h : SlK w.heap.size 7 w a L) :
  ∃ (b : Bk) (os : List Ord), os.length = L.length ∧ Rep w (fun _ => False) noLay noH (.agg (cBk b (.sl 7 (rows cOrd os)))) (.agg (bk l (.slice a L.length cap))) := by
 obtain ⟨os, e, hr⟩ := slk_rows ex_Ord h h1 h2
 refine ⟨⟨⟨l.take 8, by simp; omega⟩, ⟨(l.drop 8).take 8, by simp; omega⟩, ⟨(l.drop 16).take 8, by simp; omega⟩⟩, os, e, ?_⟩
 have hcs : cBk ⟨⟨l.take 8, by simp; omega⟩, ⟨(l.drop 8).take 8, by simp; omega⟩, ⟨(l.drop 16).take 8, by simp; omega⟩⟩ (.sl 7 (rows cOrd os)) = AI l ++ [.sl 7 (rows cOrd os)] := by
  have hsplit : l = l.take 8 ++ ((l.drop 8).take 8 ++ (l.drop 16).take 8) := by
   have e1 : (l.drop 16).take 8 = l.drop 16 := List.take_of_length_le (by simp; omega)
   rw [e1, show l.drop 16 = (l.drop 8).drop 8 by rw [List.drop_drop], List.take_append_drop, List.take_append_drop]
  simp only [cBk, cV]
  congr 1
  conv => rhs; rw [hsplit]
  simp only [AI, List.map_append, List.append_assoc]
 rw [hcs]
 refine .agg _ _ _ (fun i => if i < 24 then .int .i64 (nth l i) else .slice a L.length cap) (by simp [bk, size_A, AI, hl]) (fun i hi => ?_) fun i c hc => ?_
 ·
  have hi' : i < 25 := by simpa [AI, hl] using hi
  by_cases h24 : i < 24
  ·
   simp only [h24, if_true]
   exact ⟨get_bk l _ i (by omega), rfl⟩
  ·
   have : i = 24 := by omega
   subst this
   refine ⟨?_, rfl⟩
   rw [bk, Array.getElem?_push, if_pos (by rw [size_A, hl])]
   simp
 ·
  by_cases h24 : i < 24
  ·
   simp only [h24, if_true]
   rw [List.getElem?_append_left (by simp [AI, hl, h24])] at hc
   simp only [AI_get, Option.map_eq_some_iff] at hc
   obtain ⟨z, hz, rfl⟩ := hc
   obtain ⟨hj, rfl⟩ := List.getElem?_eq_some_iff.1 hz
   rw [nth_eq hj]
   exact .int _ _ _
  ·
   simp only [h24, if_false]
   rw [List.getElem?_append_right (by simp [AI, hl]; omega)] at hc
   simp only [AI_len, hl] at hc
   have : i = 24 := by
    rcases Nat.lt_or_ge (i - 24) 1 with h | h
    · omega
    · rw [List.getElem?_eq_none (by simpa using h)] at hc; cases hc
   subst this
   simp at hc
   subst hc
   exact hr
theorem true_walk {P : Program} {f : FuncId} {S : HSpec} (h : HSound P f S) {args : List AV} (hS : S args [] = some ⟨.bool true, [], []⟩) (w : World) {vals : Array Value} (hsz : vals.size = args.length) (hv : ∀ i v, args[i]? = some v → Rep w (fun _ => False) noLay noH v (vals.getD i undef)) :
  Calls P f vals w fun e w' => e = .returned (.bool true) ∧ Below w.heap.size w w' := by
 obtain ⟨_, h2⟩ := h args [] _ hS
 refine (h2 w (fun _ => False) (fun _ => none) vals noLay ⟨⟨fun g hg => hg.elim, fun b x hx => (by cases hx), fun b b' x x' g c c' hx => (by cases hx), fun b x g c hx => (by cases hx), BelowX.refl _ _ _, fun i x hx => (by cases hx)⟩, hsz, fun i v hi => ?_, by simp⟩ (fun _ _ => rfl)).mono fun e w' he => ?_
 · exact (hv i v hi).mono (fun g _ hg => ⟨(fun hh => hh.elim hg fun ⟨b, x, c, hx, _⟩ => by cases hx), rfl⟩) (HLe.refl _) (fun b hb => absurd rfl hb)
 ·
  obtain ⟨μ', hm, hpost⟩ := he
  rcases hpost with ⟨p, x, q1, _⟩ | ⟨_, v, rfl, q3⟩
  · cases q1
  ·
   cases q3
   exact ⟨rfl, hm.hw.below fun _ => no_io⟩
end Go.Proofs.Ytebflegkdfhoaaa.AE
