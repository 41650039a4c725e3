/-
  VectorKnows from its arguments as they are read. Conditions: none; every contract names its own.
-/
import Derived.Test.YtikhhmdmmgkakaaVk3
import Derived.Test.YtikhhmdmmgkakaaOpen
namespace Go.Proofs.Ytikhhmdmmgkakaa.AE
open Go Go.Proofs Go.RowKit
set_option linter.unusedVariables false
set_option maxRecDepth 100000
theorem slk_rep {k : Nat} {w : World} {a : Option Addr} {L : List (List Int)} {cap : Nat} (h : SlK w.heap.size k w a L) (h1 : L.length ≤ cap) (h2 : cap ≤ maxLen) : Rep w (fun _ => False) noLay noH (.sl k (RI L)) (.slice a L.length cap) := by
  have : (RI L).length = L.length := RI_len L
  rw [← this]
  refine .sl _ _ _ _ _ (fun i j => .int .i64 (nth (el L i) j)) (by omega) h2 (fun x hx => ?_) (fun i j hi hj => ?_) fun i j cs x hi hj => ?_
  · simp only [RI, List.mem_map] at hx
    obtain ⟨l, hl, rfl⟩ := hx
    rw [AI_len]
    exact (h.1 l hl).1
  · obtain ⟨b, off, q1, q2, q3⟩ := h.cell (i := i) (by omega)
    exact ⟨b, off, q1, fun hf => hf, by rw [← Nat.add_assoc]; exact q3 j hj, rfl⟩
  · simp only [RI_get, Option.map_eq_some_iff] at hi
    obtain ⟨l, hl, rfl⟩ := hi
    obtain ⟨hi, rfl⟩ := List.getElem?_eq_some_iff.1 hl
    simp only [AI_get, Option.map_eq_some_iff] at hj
    obtain ⟨z, hz, rfl⟩ := hj
    obtain ⟨hj, rfl⟩ := List.getElem?_eq_some_iff.1 hz
    rw [el_eq hi, nth_eq hj]
    exact .int _ _ _
theorem true_post {w w' : World} {e : Ending} (h : CPost w (fun _ => False) (.bool true) e w') : e = .returned (.bool true) ∧ Below w.heap.size w w' := by
  obtain ⟨hb, ⟨p, x, h, _⟩ | ⟨_, v, rfl, hr⟩⟩ := h
  · cases h
  · have hr : Rep w' (fun _ => False) noLay noH (.bool true) v := hr
    cases hr
    exact ⟨rfl, hb⟩
theorem VectorKnows_walk (w : World) (a0 : Option Addr) (c0 : Nat) (L0 : List (List Int)) (h0 : L0.length ≤ c0) (m0 : c0 ≤ maxLen) (s0 : SlK w.heap.size 9 w a0 L0) (a1 : Option Addr) (c1 : Nat) (L1 : List (List Int)) (h1 : L1.length ≤ c1) (m1 : c1 ≤ maxLen) (s1 : SlK w.heap.size 9 w a1 L1) :
    Calls Try.prog 4 #[.slice a0 L0.length c0, .slice a1 L1.length c1] w fun e w' => e = .returned (.bool true) ∧ Below w.heap.size w w' := by
  refine (f4_ok [.sl 9 (RI L0), .sl 9 (RI L1)] _ (knowsS_at (fun l h => (s0.1 l h).1) (fun l h => (s1.1 l h).1)) w (fun _ => False) _ (fun g h => h.elim) rfl fun i v hi => ?_).mono fun e w' h => true_post h
  match i, hi with
  | 0, hi => cases hi; exact slk_rep s0 h0 m0
  | 1, hi => cases hi; exact slk_rep s1 h1 m1
end Go.Proofs.Ytikhhmdmmgkakaa.AE
