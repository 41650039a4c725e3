/-
  The statement ShelfCosts walks, part D: it returns true. Conditions: the arguments are as told.
-/
import Derived.Test.YtikhhmdmmgkakaaLawCostsA
import Derived.Test.YtikhhmdmmgkakaaLawCostsB
import Derived.Test.YtikhhmdmmgkakaaLawCostsC
namespace Go.Proofs.Ytikhhmdmmgkakaa
open Go.RowKit
set_option linter.unusedVariables false
theorem ShelfCosts_walk (w : World) (l : List Int) (a : Option Addr) (cap : Nat) (L : List (List Int)) (hl : l.length = 24) (hx : ∀ x ∈ l, I64 x) (hc : L.length ≤ cap) (hcap : cap ≤ maxLen) (hS : SlK w.heap.size 7 w a L) (i : Int) (hi : I64 i) (n : Int) (hn : I64 n) :
    Calls Try.prog 11 #[.agg (bk l (.slice a L.length cap)), .int .i64 i, .int .i64 n] w fun e w' => e = .returned (.bool true) ∧ Adds w w' := by
  have hlen : L.length ≤ 9223372036854775807 := by unfold maxLen at hcap; omega
  by_cases h1 : i < 0
  · exact Costs_a1 w l a cap L hl hlen hS i hi n hn h1 (.inl h1) (.inl h1)
  by_cases h2 : 7 < i
  · exact Costs_a2 w l a cap L hl hlen hS i hi n hn h1 h2 (.inr (.inl h2)) (.inr (.inl h2))
  by_cases h3 : n < 0
  · exact Costs_a3 w l a cap L hl hlen hS i hi n hn h1 h2 h3 (.inr (.inr (.inl h3))) (.inr (.inr (.inl h3)))
  have hp := hx _ (nth_mem (l := l) (i := 8 + i.toNat) (by omega))
  by_cases hc : 1099511627776 < n
  · have h4 : 1073741824 < n := by omega
    exact Costs_a4 w l a cap L hl hlen hS i hi n hn h1 h2 h3 h4 (.inr (.inr (.inr h4))) (.inr (.inr (.inr hc)))
  have r1 : 0 ≤ i := by omega
  have r2 : i ≤ 7 := by omega
  have r3 : 0 ≤ n := by omega
  have r4 : n ≤ 1099511627776 := by omega
  have hz : ¬ 0 < n → n * nth l (8 + i.toNat) = 0 := fun h => by rw [show n = 0 from by omega, Int.zero_mul]
  have ho1 : n = 1 → n * nth l (8 + i.toNat) = nth l (8 + i.toNat) := fun h => by rw [h, Int.one_mul]
  have hneg : nth l (8 + i.toNat) = -9223372036854775808 → n * nth l (8 + i.toNat) = n * -9223372036854775808 := fun h => by rw [h]
  have hpos : nth l (8 + i.toNat) ≤ 0 → n * nth l (8 + i.toNat) ≤ 0 := fun h => Int.mul_nonpos_of_nonneg_of_nonpos r3 h
  by_cases hF : I64 (n * nth l (8 + i.toNat))
  · by_cases hO : 1099511627776 < n * nth l (8 + i.toNat)
    · have k2 : 0 < n := by by_cases h : 0 < n; exact h; have := hz h; omega
      have k1 : (nth l (8 + i.toNat) == -9223372036854775808) = false := by rw [beq_eq_false_iff_ne]; intro h; have := hpos (by omega); omega
      by_cases h4 : 1073741824 < n
      · exact Costs_bno_over_big w l a cap L hl hlen hS i hi n hn r1 r2 r3 r4 h1 h2 h3 hp h4 (.inr (.inr (.inr h4))) hF hO k1 k2
      · exact Costs_bok_over_big w l a cap L hl hlen hS i hi n hn r1 r2 r3 r4 h1 h2 h3 hp h4 hF hO k1 k2
    · by_cases k2 : 0 < n
      · by_cases km : nth l (8 + i.toNat) = -9223372036854775808
        · obtain rfl : n = 1 := by have := hneg km; unfold I64 at hF; omega
          exact Costs_bok_ok_one w l a cap L hl hlen hS i hi r1 r2 h1 h2 hp hF hO (beq_iff_eq.2 km)
        · by_cases h4 : 1073741824 < n
          · exact Costs_bno_ok_big w l a cap L hl hlen hS i hi n hn r1 r2 r3 r4 h1 h2 h3 hp h4 (.inr (.inr (.inr h4))) hF hO (beq_eq_false_iff_ne.2 km) k2
          · exact Costs_bok_ok_big w l a cap L hl hlen hS i hi n hn r1 r2 r3 r4 h1 h2 h3 hp h4 hF hO (beq_eq_false_iff_ne.2 km) k2
      · obtain rfl : n = 0 := by omega
        by_cases km : nth l (8 + i.toNat) = -9223372036854775808
        · exact Costs_bok_ok_zmin w l a cap L hl hlen hS i hi r1 r2 h1 h2 hp hF hO (beq_iff_eq.2 km)
        · exact Costs_bok_ok_zero w l a cap L hl hlen hS i hi r1 r2 h1 h2 hp hF hO (beq_eq_false_iff_ne.2 km)
  · have k2 : 0 < n := by by_cases h : 0 < n; exact h; have := hz h; rw [this] at hF; exact absurd (by decide) hF
    have kn : ¬ n = 1 := by intro h; have := ho1 h; rw [this] at hF; exact hF hp
    by_cases km : nth l (8 + i.toNat) = -9223372036854775808
    · have k3 : 1 < n := by omega
      by_cases h4 : 1073741824 < n
      · exact Costs_bno_no_min w l a cap L hl hlen hS i hi n hn r1 r2 r3 r4 h1 h2 h3 hp h4 (.inr (.inr (.inr h4))) hF (beq_iff_eq.2 km) k3
      · exact Costs_bok_no_min w l a cap L hl hlen hS i hi n hn r1 r2 r3 r4 h1 h2 h3 hp h4 hF (beq_iff_eq.2 km) k3
    · by_cases h4 : 1073741824 < n
      · exact Costs_bno_no_div w l a cap L hl hlen hS i hi n hn r1 r2 r3 r4 h1 h2 h3 hp h4 (.inr (.inr (.inr h4))) hF (beq_eq_false_iff_ne.2 km) k2
      · exact Costs_bok_no_div w l a cap L hl hlen hS i hi n hn r1 r2 r3 r4 h1 h2 h3 hp h4 hF (beq_eq_false_iff_ne.2 km) k2
end Go.Proofs.Ytikhhmdmmgkakaa
