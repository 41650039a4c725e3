/-
  What the reference of chapter 16 does is what booking.Do does. Conditions: the bookings are in their bounds.
-/
import Derived.Test.YtiifcalgolkpiaaORs5
import Derived.Test.YtiifcalgolkpiaaPg
set_option linter.constructorNameAsVariable false
namespace Go.Proofs.Ytiifcalgolkpiaa.AE
open Go Go.Proofs Go.RowKit
set_option linter.unusedVariables false
set_option linter.unusedSimpArgs false
set_option maxRecDepth 100000
set_option maxHeartbeats 4000000

def dr : Except Int (Bk × List Ord × List Eff × Id) → Except Int (Bk × List Ord × List Eff)
  | .ok (d, ps, l, _) => .ok (d, ps, l)
  | .error e => .error e
def outR (code : Int) (t : Bk × List Ord × List Eff) : Except Int (Bk × List Ord × List Eff) := if code = 0 then .ok t else .error code
def doR (b : Bk) (os : List Ord) (c : Chg) : Except Int (Bk × List Ord × List Eff) :=
  outR (codeR b os c) (if 4 ≤ c.kind ∧ c.kind ≤ 8 then ordR b os c (ordAt os c) else simR b os c)
theorem fine_T {i n : Int} (h : (0 ≤ i ∧ i ≤ 7) ∧ 0 ≤ n ∧ n ≤ 1099511627776) : fineB i n = true := by
  simp only [fineB, itemB, Bool.and_eq_true, decide_eq_true_eq]
  omega
theorem fine_F {i n : Int} (h : ¬ ((0 ≤ i ∧ i ≤ 7) ∧ 0 ≤ n ∧ n ≤ 1099511627776)) : ¬ fineB i n = true := by
  simp only [fineB, itemB, Bool.and_eq_true, decide_eq_true_eq]
  omega
theorem addB_eq (b : Bk) (i n : Int) : addB' b i n = if (0 ≤ i ∧ i ≤ 7) ∧ 0 ≤ n ∧ n ≤ 1099511627776 then (if b.st.at i.toNat + n ≤ 1099511627776 then .ok { b with st := b.st.put i.toNat (b.st.at i.toNat + n) } else .error 7) else .error 4 := by
  unfold addB'
  by_cases h : (0 ≤ i ∧ i ≤ 7) ∧ 0 ≤ n ∧ n ≤ 1099511627776
  · rw [if_pos (fine_T h), if_pos h]
  · rw [if_neg (fine_F h), if_neg h]
theorem giveB_eq (b : Bk) (i n : Int) : giveB b i n = if (0 ≤ i ∧ i ≤ 7) ∧ 0 ≤ n ∧ n ≤ 1099511627776 then (if b.pu.at i.toNat + n ≤ 1099511627776 then .ok { b with pu := b.pu.put i.toNat (b.pu.at i.toNat + n) } else .error 7) else .error 4 := by
  unfold giveB
  by_cases h : (0 ≤ i ∧ i ≤ 7) ∧ 0 ≤ n ∧ n ≤ 1099511627776
  · rw [if_pos (fine_T h), if_pos h]
  · rw [if_neg (fine_F h), if_neg h]
theorem takeB_eq (b : Bk) (i n : Int) : takeB b i n = if (0 ≤ i ∧ i ≤ 7) ∧ 0 ≤ n ∧ n ≤ 1099511627776 then (if b.st.at i.toNat < n then .error 11 else .ok { b with st := b.st.put i.toNat (b.st.at i.toNat - n) }) else .error 4 := by
  unfold takeB
  by_cases h : (0 ≤ i ∧ i ≤ 7) ∧ 0 ≤ n ∧ n ≤ 1099511627776
  · rw [if_pos (fine_T h), if_pos h]
  · rw [if_neg (fine_F h), if_neg h]
theorem payB_eq (b : Bk) (i n : Int) : payB b i n = if (0 ≤ i ∧ i ≤ 7) ∧ 0 ≤ n ∧ n ≤ 1099511627776 then (if b.pu.at i.toNat < n then .error 11 else .ok { b with pu := b.pu.put i.toNat (b.pu.at i.toNat - n) }) else .error 4 := by
  unfold payB
  by_cases h : (0 ≤ i ∧ i ≤ 7) ∧ 0 ≤ n ∧ n ≤ 1099511627776
  · rw [if_pos (fine_T h), if_pos h]
  · rw [if_neg (fine_F h), if_neg h]
theorem costB_eq (b : Bk) (i n : Int) : costB b i n = if (0 ≤ i ∧ i ≤ 7) ∧ 0 ≤ n ∧ n ≤ 1099511627776 then (if n * b.pr.at i.toNat ≤ 1099511627776 then .ok (n * b.pr.at i.toNat) else .error 7) else .error 4 := by
  unfold costB
  by_cases h : (0 ≤ i ∧ i ≤ 7) ∧ 0 ≤ n ∧ n ≤ 1099511627776
  · rw [if_pos (fine_T h), if_pos h]
  · rw [if_neg (fine_F h), if_neg h]
theorem addB_in {b : Bk} {i n : Int} (h : (0 ≤ i ∧ i ≤ 7) ∧ 0 ≤ n ∧ n ≤ 1099511627776) : addB' b i n = (if b.st.at i.toNat + n ≤ 1099511627776 then .ok { b with st := b.st.put i.toNat (b.st.at i.toNat + n) } else .error 7) := by rw [addB_eq, if_pos h]
theorem giveB_in {b : Bk} {i n : Int} (h : (0 ≤ i ∧ i ≤ 7) ∧ 0 ≤ n ∧ n ≤ 1099511627776) : giveB b i n = (if b.pu.at i.toNat + n ≤ 1099511627776 then .ok { b with pu := b.pu.put i.toNat (b.pu.at i.toNat + n) } else .error 7) := by rw [giveB_eq, if_pos h]
theorem takeB_in {b : Bk} {i n : Int} (h : (0 ≤ i ∧ i ≤ 7) ∧ 0 ≤ n ∧ n ≤ 1099511627776) : takeB b i n = (if b.st.at i.toNat < n then .error 11 else .ok { b with st := b.st.put i.toNat (b.st.at i.toNat - n) }) := by rw [takeB_eq, if_pos h]
theorem payB_in {b : Bk} {i n : Int} (h : (0 ≤ i ∧ i ≤ 7) ∧ 0 ≤ n ∧ n ≤ 1099511627776) : payB b i n = (if b.pu.at i.toNat < n then .error 11 else .ok { b with pu := b.pu.put i.toNat (b.pu.at i.toNat - n) }) := by rw [payB_eq, if_pos h]
theorem costB_in {b : Bk} {i n : Int} (h : (0 ≤ i ∧ i ≤ 7) ∧ 0 ≤ n ∧ n ≤ 1099511627776) : costB b i n = (if n * b.pr.at i.toNat ≤ 1099511627776 then .ok (n * b.pr.at i.toNat) else .error 7) := by rw [costB_eq, if_pos h]
theorem hasB_eq (b : Bk) (i n : Int) : hasB b i n = true ↔ ((0 ≤ i ∧ i ≤ 7) ∧ 0 ≤ n ∧ n ≤ 1099511627776) ∧ n ≤ b.st.at i.toNat := by
  unfold hasB
  rw [takeB_eq]
  by_cases h : (0 ≤ i ∧ i ≤ 7) ∧ 0 ≤ n ∧ n ≤ 1099511627776
  · rw [if_pos h]
    by_cases h2 : b.st.at i.toNat < n
    · rw [if_pos h2]; simp; omega
    · rw [if_neg h2]; simp; omega
  · rw [if_neg h]; simp; omega
theorem inC_none {os : List Ord} {a : Id} (h : findL os a = none) (st : List Int) : inC os a st = 14 := by unfold inC; rw [h]
theorem inC_some {os : List Ord} {a : Id} {x : Ord} (h : findL os a = some x) (st : List Int) : inC os a st = if x.state ∈ st then 0 else 9 := by unfold inC; rw [h]
theorem inO_some {os : List Ord} {a : Id} {x : Ord} (h : findL os a = some x) {st : List Int} (hm : x.state ∈ st) : inO os a st = x := by
  unfold inO
  rw [if_pos (by rw [inC_some h, if_pos hm]), h]
  rfl
theorem find_id {os : List Ord} {a : Id} {x : Ord} (h : findL os a = some x) : x.id = a ∧ x ∈ os := by
  refine ⟨?_, List.mem_of_find?_eq_some h⟩
  have := List.find?_some h
  simpa [isOrd] using this
section
variable {b : Bk} {os : List Ord} {c : Chg}
theorem doR_sim (h : ¬ (4 ≤ c.kind ∧ c.kind ≤ 8)) : doR b os c = outR (codeR b os c) (simR b os c) := by unfold doR; rw [if_neg h]
theorem doR_ord (h : 4 ≤ c.kind ∧ c.kind ≤ 8) {x : Ord} (hf : findL os c.ref = some x) : doR b os c = outR (codeR b os c) (ordR b os c x) := by unfold doR ordAt; rw [if_pos h, hf]; rfl
theorem doR_1 (k : c.kind = 1) : doR b os c = dr (doW b os c) := by
  have hc : codeR b os c = addR b.st c.a c.n := if_pos k
  have hs : simR b os c = _ := if_pos k
  have hw : doW b os c = _ := if_pos k
  rw [doR_sim (by omega), hc, hs, hw]
  unfold addR
  by_cases h1 : 1 ≤ c.n
  · rw [if_pos h1]
    by_cases h2 : 0 ≤ c.a ∧ c.a ≤ 7 ∧ 1 ≤ c.n ∧ c.n ≤ 1099511627776
    · rw [if_pos h2, addB_in (by omega)]
      by_cases h3 : 1099511627776 < b.st.at c.a.toNat + c.n
      · rw [if_pos h3, if_neg (show ¬ b.st.at c.a.toNat + c.n ≤ 1099511627776 by omega)]; rfl
      · rw [if_neg h3, if_pos (show b.st.at c.a.toNat + c.n ≤ 1099511627776 by omega)]; rfl
    · rw [if_neg h2, addB_eq, if_neg (show ¬ ((0 ≤ c.a ∧ c.a ≤ 7) ∧ 0 ≤ c.n ∧ c.n ≤ 1099511627776) by omega)]; rfl
  · rw [if_neg h1, if_neg (show ¬ (0 ≤ c.a ∧ c.a ≤ 7 ∧ 1 ≤ c.n ∧ c.n ≤ 1099511627776) by omega)]; rfl
theorem doR_2 (k : c.kind = 2) : doR b os c = dr (doW b os c) := by
  have hc : codeR b os c = addR b.pu c.a c.n := (if_neg (by omega)).trans (if_pos k)
  have hs : simR b os c = _ := (if_neg (by omega)).trans (if_pos k)
  have hw : doW b os c = _ := (if_neg (by omega)).trans (if_pos k)
  rw [doR_sim (by omega), hc, hs, hw]
  unfold addR
  by_cases h1 : 1 ≤ c.n
  · rw [if_pos h1]
    by_cases h2 : 0 ≤ c.a ∧ c.a ≤ 7 ∧ 1 ≤ c.n ∧ c.n ≤ 1099511627776
    · rw [if_pos h2, giveB_in (by omega)]
      by_cases h3 : 1099511627776 < b.pu.at c.a.toNat + c.n
      · rw [if_pos h3, if_neg (show ¬ b.pu.at c.a.toNat + c.n ≤ 1099511627776 by omega)]; rfl
      · rw [if_neg h3, if_pos (show b.pu.at c.a.toNat + c.n ≤ 1099511627776 by omega)]; rfl
    · rw [if_neg h2, giveB_eq, if_neg (show ¬ ((0 ≤ c.a ∧ c.a ≤ 7) ∧ 0 ≤ c.n ∧ c.n ≤ 1099511627776) by omega)]; rfl
  · rw [if_neg h1, if_neg (show ¬ (0 ≤ c.a ∧ c.a ≤ 7 ∧ 1 ≤ c.n ∧ c.n ≤ 1099511627776) by omega)]; rfl
theorem itemC_eq (hn : 1 ≤ c.n ∧ c.n ≤ 1000) (hb : 0 ≤ c.b ∧ c.b ≤ 7) : (itemR b c < 0 → itemC b c = c.b ∧ b.st.at c.b.toNat < c.n) ∧ (0 ≤ itemR b c → itemC b c = itemR b c) := by
  unfold itemR itemC
  by_cases h1 : c.n ≤ b.st.at c.b.toNat
  · have : hasB b c.b c.n = true := (hasB_eq _ _ _).2 ⟨⟨hb, by omega, by omega⟩, h1⟩
    rw [if_pos h1, this]
    exact ⟨fun h => by omega, fun _ => rfl⟩
  · have : hasB b c.b c.n = false := by
      rw [Bool.eq_false_iff]
      intro h
      exact h1 ((hasB_eq _ _ _).1 h).2
    rw [if_neg h1, this]
    by_cases h2 : c.ref.seq = 1 ∧ 0 ≤ c.ref.rep ∧ c.ref.rep ≤ 7 ∧ c.n ≤ b.st.at c.ref.rep.toNat
    · have h3 : hasB b c.ref.rep c.n = true := (hasB_eq _ _ _).2 ⟨⟨⟨h2.2.1, h2.2.2.1⟩, by omega, by omega⟩, h2.2.2.2⟩
      rw [if_pos h2, h3, h2.1]
      exact ⟨fun h => by omega, fun _ => rfl⟩
    · rw [if_neg h2]
      refine ⟨fun _ => ⟨if_neg fun h => h2 ?_, by omega⟩, fun h => by omega⟩
      simp only [Bool.not_false, Bool.true_and, Bool.and_eq_true, beq_iff_eq] at h
      obtain ⟨h4, h5⟩ := h
      obtain ⟨⟨h6, _⟩, h7⟩ := (hasB_eq _ _ _).1 h5
      exact ⟨h4, h6.1, h6.2, h7⟩
theorem doR_3 (k : c.kind = 3) : doR b os c = dr (doW b os c) := by
  have hc : codeR b os c = placeR b os c := (if_neg (by omega)).trans ((if_neg (by omega)).trans (if_pos k))
  have hs : simR b os c = _ := (if_neg (by omega)).trans ((if_neg (by omega)).trans (if_neg (by omega)))
  have hw : doW b os c = placeW b os c := (if_neg (by omega)).trans ((if_neg (by omega)).trans (if_pos k))
  rw [doR_sim (by omega), hc, hs, hw]
  unfold placeR placeW
  by_cases h : 0 ≤ c.a ∧ c.a ≤ 7 ∧ 0 ≤ c.b ∧ c.b ≤ 7 ∧ 1 ≤ c.n ∧ c.n ≤ 1000
  · have hg : (itemB c.a && (itemB c.b && decide (1 ≤ c.n ∧ c.n ≤ 1000))) = true := by
      simp only [itemB, Bool.and_eq_true, decide_eq_true_eq]
      omega
    rw [if_pos h, if_pos hg]
    have hN : newC os (ordN c (itemC b c)) = if 0 ≤ placeL os c.id then 9 else if 32 ≤ os.length then 3 else 0 := rfl
    rw [hN]
    by_cases h1 : 0 ≤ placeL os c.id
    · simp only [if_pos h1]; rfl
    · by_cases h2 : 32 ≤ os.length
      · simp only [if_neg h1, if_pos h2]; rfl
      · simp only [if_neg h1, if_neg h2, if_true]
        obtain ⟨i1, i2⟩ := itemC_eq (b := b) (c := c) ⟨h.2.2.2.2.1, h.2.2.2.2.2⟩ ⟨h.2.2.1, h.2.2.2.1⟩
        by_cases h3 : itemR b c < 0
        · obtain ⟨e1, e2⟩ := i1 h3
          rw [if_pos h3, e1, takeB_in (by omega), if_pos e2]; rfl
        · have e1 := i2 (by omega)
          obtain ⟨r1, r2⟩ := itemR_rng (b := b) (c := c) ⟨h.2.2.1, h.2.2.2.1⟩ (by omega)
          rw [if_neg h3, e1, takeB_in (by omega), if_neg (show ¬ b.st.at (itemR b c).toNat < c.n by omega)]; rfl
  · have hg : ¬ (itemB c.a && (itemB c.b && decide (1 ≤ c.n ∧ c.n ≤ 1000))) = true := by
      simp only [itemB, Bool.and_eq_true, decide_eq_true_eq]
      omega
    rw [if_neg h, if_neg hg]; rfl
theorem doW_9 (k : c.kind = 9) : doW b os c = match priceB b c.a c.n with
      | .ok d => .ok (d, os, [], zId)
      | .error e => .error e := by
  unfold doW
  rw [if_neg (by omega), if_neg (by omega), if_neg (by omega), if_neg (by omega), if_neg (by omega), if_neg (by omega), if_neg (by omega), if_neg (by omega), if_pos k]
  rfl
theorem doR_9 (k : c.kind = 9) : doR b os c = dr (doW b os c) := by
  have hc : codeR b os c = _ := (if_neg (by omega)).trans ((if_neg (by omega)).trans ((if_neg (by omega)).trans (if_pos k)))
  have hs : simR b os c = _ := (if_neg (by omega)).trans ((if_neg (by omega)).trans (if_pos k))
  rw [doR_sim (by omega), hc, hs, doW_9 k]
  unfold priceB
  by_cases h : 0 ≤ c.a ∧ c.a ≤ 7 ∧ 0 ≤ c.n ∧ c.n ≤ 1073741824
  · have hg : (itemB c.a && decide (0 ≤ c.n ∧ c.n ≤ 1073741824)) = true := by
      simp only [itemB, Bool.and_eq_true, decide_eq_true_eq]
      omega
    rw [if_pos h, if_pos hg]; rfl
  · have hg : ¬ (itemB c.a && decide (0 ≤ c.n ∧ c.n ≤ 1073741824)) = true := by
      simp only [itemB, Bool.and_eq_true, decide_eq_true_eq]
      omega
    rw [if_neg h, if_neg hg]; rfl
theorem codeR_ord (k : 4 ≤ c.kind ∧ c.kind ≤ 8) (hn : c.kind = 4 → 1 ≤ c.n ∧ c.n ≤ 1000) : codeR b os c = match findL os c.ref with
    | none => 14
    | some x => aboutR b c x := by
  unfold codeR
  rw [if_neg (by omega), if_neg (by omega), if_neg (by omega), if_neg (by omega), if_neg (by omega), if_neg (by omega)]
  rfl
theorem doR_none (k : 4 ≤ c.kind ∧ c.kind ≤ 8) (hn : c.kind = 4 → 1 ≤ c.n ∧ c.n ≤ 1000) (hf : findL os c.ref = none) : doR b os c = .error 14 := by
  unfold doR
  rw [codeR_ord k hn, hf]
  rfl
theorem doR_some (k : 4 ≤ c.kind ∧ c.kind ≤ 8) (hn : c.kind = 4 → 1 ≤ c.n ∧ c.n ≤ 1000) {x : Ord} (hf : findL os c.ref = some x) : doR b os c = outR (aboutR b c x) (ordR b os c x) := by
  rw [doR_ord k hf, codeR_ord k hn, hf]
theorem doR_4 (hF : FairB b) (hO : FairO os) (k : c.kind = 4) : doR b os c = dr (doW b os c) := by
  have hw : doW b os c = amendW b os c := (if_neg (by omega)).trans ((if_neg (by omega)).trans ((if_neg (by omega)).trans (if_pos k)))
  rw [hw]
  unfold amendW
  by_cases hn : 1 ≤ c.n ∧ c.n ≤ 1000
  · rw [if_pos (decide_eq_true hn)]
    cases hf : findL os c.ref with
    | none => rw [doR_none (by omega) (fun _ => hn) hf, inC_none hf]; rfl
    | some x =>
      rw [doR_some (by omega) (fun _ => hn) hf, inC_some hf]
      obtain ⟨hid, hm⟩ := find_id hf
      obtain ⟨⟨a0, a1⟩, ⟨a2, a3⟩, ⟨a4, a5⟩, ⟨a6, a7⟩, _⟩ := hO x hm
      obtain ⟨f1, f2, _⟩ := hF x.item.toNat (by omega)
      have hA : aboutR b c x = _ := if_pos k
      have hR : ordR b os c x = _ := if_pos k
      rw [hA, hR]
      by_cases s : x.state = 1
      · have hms : x.state ∈ [(1 : Int)] := by simp [s]
        rw [if_pos hms, inO_some hf hms, if_pos s, if_pos rfl]
        have st : ∀ v, v = b.st.at x.item.toNat + x.qty - c.n → (Except.ok ({ b with st := b.st.put x.item.toNat v }, putL os (chgS (chgQ x c.n) 1), [⟨2, x.item, c.n, c.ref⟩], c.ref) : Except Int (Bk × List Ord × List Eff × Id)) = .ok ({ b with st := b.st.put x.item.toNat (b.st.at x.item.toNat + x.qty - c.n) }, putL os (chgS (chgQ x c.n) 1), [⟨2, x.item, c.n, c.ref⟩], c.ref) := fun v hv => by rw [hv]
        by_cases h0 : 0 ≤ c.n - x.qty
        · rw [if_pos h0, takeB_in (by omega)]
          by_cases h1 : b.st.at x.item.toNat < c.n - x.qty
          · rw [if_pos h1, if_pos h1]; rfl
          · rw [if_neg h1, if_neg h1, if_neg (show ¬ 1099511627776 < b.st.at x.item.toNat + x.qty - c.n by omega)]
            show _ = dr (.ok _)
            rw [st _ (by omega), hid]; rfl
        · rw [if_neg h0, addB_in (by omega), if_neg (show ¬ b.st.at x.item.toNat < c.n - x.qty by omega)]
          by_cases h1 : 1099511627776 < b.st.at x.item.toNat + x.qty - c.n
          · rw [if_pos h1, if_neg (show ¬ b.st.at x.item.toNat + -(c.n - x.qty) ≤ 1099511627776 by omega)]; rfl
          · rw [if_neg h1, if_pos (show b.st.at x.item.toNat + -(c.n - x.qty) ≤ 1099511627776 by omega)]
            show _ = dr (.ok _)
            rw [st _ (by omega), hid]; rfl
      · have hms : ¬ x.state ∈ [(1 : Int)] := by simp [s]
        rw [if_neg hms, if_neg s]; rfl
  · rw [if_neg (by simpa using hn)]
    have hc : codeR b os c = 4 := by
      unfold codeR
      rw [if_neg (by omega), if_neg (by omega), if_neg (by omega), if_neg (by omega), if_neg (by omega), if_pos ⟨k, hn⟩]
    unfold doR
    rw [hc]; rfl
theorem doR_5 (hF : FairB b) (hO : FairO os) (k : c.kind = 5) : doR b os c = dr (doW b os c) := by
  have hw : doW b os c = cancelW b os c := (if_neg (by omega)).trans ((if_neg (by omega)).trans ((if_neg (by omega)).trans ((if_neg (by omega)).trans (if_pos k))))
  rw [hw]
  unfold cancelW
  cases hf : findL os c.ref with
  | none => rw [doR_none (by omega) (by omega) hf, inC_none hf]; rfl
  | some x =>
    rw [doR_some (by omega) (by omega) hf, inC_some hf]
    obtain ⟨hid, hm⟩ := find_id hf
    obtain ⟨⟨a0, a1⟩, ⟨a2, a3⟩, ⟨a4, a5⟩, ⟨a6, a7⟩, _⟩ := hO x hm
    obtain ⟨f1, f2, _⟩ := hF x.item.toNat (by omega)
    obtain ⟨_, _, _, _, f5, f6⟩ := hF x.buyer.toNat (by omega)
    have hA : aboutR b c x = _ := (if_neg (by omega)).trans (if_pos k)
    have hR : ordR b os c x = _ := (if_neg (by omega)).trans (if_pos k)
    rw [hA, hR]
    by_cases s : x.state = 1 ∨ x.state = 2
    · have hms : x.state ∈ [(1 : Int), 2] := by simpa using s
      rw [if_pos hms, inO_some hf hms, if_pos s, if_pos rfl, addB_in (by omega)]
      by_cases h1 : b.st.at x.item.toNat + x.qty ≤ 1099511627776
      · rw [if_pos h1]
        by_cases s2 : x.state = 2
        · simp only [if_pos s2]
          rw [giveB_in (by omega)]
          by_cases h2 : b.pu.at x.buyer.toNat + x.cost ≤ 1099511627776
          · rw [if_neg (show ¬ (1099511627776 < b.st.at x.item.toNat + x.qty ∨ x.state = 2 ∧ 1099511627776 < b.pu.at x.buyer.toNat + x.cost) by omega), if_pos h2, hid]; rfl
          · rw [if_pos (show 1099511627776 < b.st.at x.item.toNat + x.qty ∨ x.state = 2 ∧ 1099511627776 < b.pu.at x.buyer.toNat + x.cost by omega), if_neg h2]; rfl
        · simp only [if_neg s2]
          rw [if_neg (show ¬ (1099511627776 < b.st.at x.item.toNat + x.qty ∨ x.state = 2 ∧ 1099511627776 < b.pu.at x.buyer.toNat + x.cost) by omega), hid]; rfl
      · rw [if_neg h1, if_pos (show 1099511627776 < b.st.at x.item.toNat + x.qty ∨ x.state = 2 ∧ 1099511627776 < b.pu.at x.buyer.toNat + x.cost by omega)]; rfl
    · have hms : ¬ x.state ∈ [(1 : Int), 2] := by simpa using s
      rw [if_neg hms, if_neg s]; rfl
theorem doR_6 (hF : FairB b) (hO : FairO os) (k : c.kind = 6) : doR b os c = dr (doW b os c) := by
  have hw : doW b os c = payW b os c := (if_neg (by omega)).trans ((if_neg (by omega)).trans ((if_neg (by omega)).trans ((if_neg (by omega)).trans ((if_neg (by omega)).trans (if_pos k)))))
  rw [hw]
  unfold payW
  cases hf : findL os c.ref with
  | none => rw [doR_none (by omega) (by omega) hf, inC_none hf]; rfl
  | some x =>
    rw [doR_some (by omega) (by omega) hf, inC_some hf]
    obtain ⟨hid, hm⟩ := find_id hf
    obtain ⟨⟨a0, a1⟩, ⟨a2, a3⟩, ⟨a4, a5⟩, ⟨a6, a7⟩, _⟩ := hO x hm
    obtain ⟨_, _, f3, f4, _, _⟩ := hF x.item.toNat (by omega)
    obtain ⟨_, _, _, _, f5, f6⟩ := hF x.buyer.toNat (by omega)
    obtain ⟨m1, m2⟩ := mul_rng a4 a5 f3 f4
    have hA : aboutR b c x = _ := (if_neg (by omega)).trans ((if_neg (by omega)).trans (if_pos k))
    have hR : ordR b os c x = _ := (if_neg (by omega)).trans ((if_neg (by omega)).trans (if_pos k))
    rw [hA, hR]
    by_cases s : x.state = 1
    · have hms : x.state ∈ [(1 : Int)] := by simp [s]
      rw [if_pos hms, inO_some hf hms, if_pos s, if_pos rfl, costB_in (by omega)]
      by_cases h1 : 1099511627776 < x.qty * b.pr.at x.item.toNat
      · rw [if_pos h1, if_neg (show ¬ x.qty * b.pr.at x.item.toNat ≤ 1099511627776 by omega)]; rfl
      · rw [if_neg h1, if_pos (show x.qty * b.pr.at x.item.toNat ≤ 1099511627776 by omega)]
        simp only
        rw [payB_in (by omega)]
        by_cases h2 : b.pu.at x.buyer.toNat < x.qty * b.pr.at x.item.toNat
        · rw [if_pos h2, if_pos h2]; rfl
        · rw [if_neg h2, if_neg h2, hid]; rfl
    · have hms : ¬ x.state ∈ [(1 : Int)] := by simp [s]
      rw [if_neg hms, if_neg s]; rfl
theorem doR_7 (k : c.kind = 7) : doR b os c = dr (doW b os c) := by
  have hw : doW b os c = shipW b os c := (if_neg (by omega)).trans ((if_neg (by omega)).trans ((if_neg (by omega)).trans ((if_neg (by omega)).trans ((if_neg (by omega)).trans ((if_neg (by omega)).trans (if_pos k))))))
  rw [hw]
  unfold shipW
  cases hf : findL os c.ref with
  | none => rw [doR_none (by omega) (by omega) hf, inC_none hf]; rfl
  | some x =>
    rw [doR_some (by omega) (by omega) hf, inC_some hf]
    obtain ⟨hid, hm⟩ := find_id hf
    have hA : aboutR b c x = _ := (if_neg (by omega)).trans ((if_neg (by omega)).trans ((if_neg (by omega)).trans (if_pos k)))
    have hR : ordR b os c x = _ := (if_neg (by omega)).trans ((if_neg (by omega)).trans ((if_neg (by omega)).trans (if_pos k)))
    rw [hA, hR]
    by_cases s : x.state = 2
    · have hms : x.state ∈ [(2 : Int)] := by simp [s]
      rw [if_pos hms, inO_some hf hms, if_pos s, if_pos rfl, hid]; rfl
    · have hms : ¬ x.state ∈ [(2 : Int)] := by simp [s]
      rw [if_neg hms, if_neg s]; rfl
theorem doR_8 (hF : FairB b) (hO : FairO os) (k : c.kind = 8) : doR b os c = dr (doW b os c) := by
  have hw : doW b os c = refundW b os c := (if_neg (by omega)).trans ((if_neg (by omega)).trans ((if_neg (by omega)).trans ((if_neg (by omega)).trans ((if_neg (by omega)).trans ((if_neg (by omega)).trans ((if_neg (by omega)).trans (if_pos k)))))))
  rw [hw]
  unfold refundW
  cases hf : findL os c.ref with
  | none => rw [doR_none (by omega) (by omega) hf, inC_none hf]; rfl
  | some x =>
    rw [doR_some (by omega) (by omega) hf, inC_some hf]
    obtain ⟨hid, hm⟩ := find_id hf
    obtain ⟨⟨a0, a1⟩, ⟨a2, a3⟩, ⟨a4, a5⟩, ⟨a6, a7⟩, _⟩ := hO x hm
    obtain ⟨_, _, _, _, f5, f6⟩ := hF x.buyer.toNat (by omega)
    have hA : aboutR b c x = _ := (if_neg (by omega)).trans ((if_neg (by omega)).trans ((if_neg (by omega)).trans (if_neg (by omega))))
    have hR : ordR b os c x = _ := (if_neg (by omega)).trans ((if_neg (by omega)).trans ((if_neg (by omega)).trans (if_neg (by omega))))
    rw [hA, hR]
    by_cases s : x.state = 3
    · have hms : x.state ∈ [(3 : Int)] := by simp [s]
      rw [if_pos hms, inO_some hf hms, if_pos s, if_pos rfl, giveB_in (by omega)]
      by_cases h2 : 1099511627776 < b.pu.at x.buyer.toNat + x.cost
      · rw [if_pos h2, if_neg (show ¬ b.pu.at x.buyer.toNat + x.cost ≤ 1099511627776 by omega)]; rfl
      · rw [if_neg h2, if_pos (show b.pu.at x.buyer.toNat + x.cost ≤ 1099511627776 by omega), hid]; rfl
    · have hms : ¬ x.state ∈ [(3 : Int)] := by simp [s]
      rw [if_neg hms, if_neg s]; rfl
theorem doR_none' (h : c.kind < 1 ∨ 9 < c.kind) : doR b os c = dr (doW b os c) := by
  have hc : codeR b os c = 12 := by
    unfold codeR
    rw [if_neg (by omega), if_neg (by omega), if_neg (by omega), if_neg (by omega), if_pos (by omega)]
  have hw : doW b os c = .error 12 := by
    unfold doW
    rw [if_neg (by omega), if_neg (by omega), if_neg (by omega), if_neg (by omega), if_neg (by omega), if_neg (by omega), if_neg (by omega), if_neg (by omega), if_neg (by omega)]
  unfold doR
  rw [hc, hw]; rfl
/-- The reference does what booking.Do does. -/
theorem doR_eq (hF : FairB b) (hO : FairO os) : doR b os c = dr (doW b os c) := by
  rcases (show c.kind = 1 ∨ c.kind = 2 ∨ c.kind = 3 ∨ c.kind = 4 ∨ c.kind = 5 ∨ c.kind = 6 ∨ c.kind = 7 ∨ c.kind = 8 ∨ c.kind = 9 ∨ c.kind < 1 ∨ 9 < c.kind by omega) with k | k | k | k | k | k | k | k | k | k
  · exact doR_1 k
  · exact doR_2 k
  · exact doR_3 k
  · exact doR_4 hF hO k
  · exact doR_5 hF hO k
  · exact doR_6 hF hO k
  · exact doR_7 k
  · exact doR_8 hF hO k
  · exact doR_9 k
  · exact doR_none' k
end
end Go.Proofs.Ytiifcalgolkpiaa.AE
