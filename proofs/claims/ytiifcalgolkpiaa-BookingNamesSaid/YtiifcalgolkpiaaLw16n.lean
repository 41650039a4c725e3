/-
  BookingNames. Conditions: none; every contract names its own.
-/
import Derived.Test.YtiifcalgolkpiaaPg
set_option linter.constructorNameAsVariable false
namespace Go.Proofs.Ytiifcalgolkpiaa.AE
open Go Go.Proofs Go.RowKit
set_option linter.unusedVariables false
set_option linter.unusedSimpArgs false
set_option maxRecDepth 100000
set_option maxHeartbeats 4000000
@[go_sem] theorem tiS10 : TI.of Try.prog 46 = some { size := 10, agg := true, zero := [.str ⟨#[]⟩, .str ⟨#[]⟩, .str ⟨#[]⟩, .str ⟨#[]⟩, .str ⟨#[]⟩, .str ⟨#[]⟩, .str ⟨#[]⟩, .str ⟨#[]⟩, .str ⟨#[]⟩, .str ⟨#[]⟩], fields := [], len := 10, esize := 1, etype := 9, ebytes := 16, kind := none, arr := true, slc := false, ptr := false, kinds := some [.str, .str, .str, .str, .str, .str, .str, .str, .str, .str] } := by kernel_rfl

/-- Where a word stands last. -/
def lastW (s : Str) : List Str → Nat → Int → Int
  | [], _, a => a
  | x :: r, i, a => lastW s r (i + 1) (if x = s then i else a)
theorem lastW_kind (s : Str) : lastW s (wordL.drop 1) 1 0 = kindW s := by
  by_cases h0 : s = ⟨#[]⟩
  · subst h0; decide
  by_cases h1 : s = ⟨#[114, 101, 115, 116, 111, 99, 107]⟩
  · subst h1; decide
  by_cases h2 : s = ⟨#[100, 101, 112, 111, 115, 105, 116]⟩
  · subst h2; decide
  by_cases h3 : s = ⟨#[112, 108, 97, 99, 101]⟩
  · subst h3; decide
  by_cases h4 : s = ⟨#[97, 109, 101, 110, 100]⟩
  · subst h4; decide
  by_cases h5 : s = ⟨#[99, 97, 110, 99, 101, 108]⟩
  · subst h5; decide
  by_cases h6 : s = ⟨#[112, 97, 121]⟩
  · subst h6; decide
  by_cases h7 : s = ⟨#[115, 104, 105, 112]⟩
  · subst h7; decide
  by_cases h8 : s = ⟨#[114, 101, 102, 117, 110, 100]⟩
  · subst h8; decide
  by_cases h9 : s = ⟨#[112, 114, 105, 99, 101]⟩
  · subst h9; decide
  simp only [wordL, kindW, idxL, List.drop, lastW, decide_eq_true_eq]
  rw [if_neg (fun e => h9 e.symm), if_neg (fun e => h8 e.symm), if_neg (fun e => h7 e.symm), if_neg (fun e => h6 e.symm), if_neg (fun e => h5 e.symm), if_neg (fun e => h4 e.symm), if_neg (fun e => h3 e.symm), if_neg (fun e => h2 e.symm), if_neg (fun e => h1 e.symm), if_neg h0, if_neg h1, if_neg h2, if_neg h3, if_neg h4, if_neg h5, if_neg h6, if_neg h7, if_neg h8, if_neg h9]
  rfl
def wcs : List AV := wordL.map .str
theorem wcs_at {i : Nat} (h : i < 10) : wcs[i]? = some (.str (wordL.getD i ⟨#[]⟩)) := by
  have : i < wordL.length := h
  rw [wcs, List.getElem?_map, List.getD_eq_getElem?_getD, List.getElem?_eq_getElem this]
  rfl
theorem wcs_k {k : Int} (h : 1 ≤ k ∧ k ≤ 9) : wcs[k.toNat]? = some (.str (nameW k)) := by
  rw [wcs, List.getElem?_map, wordL_at h]
  rfl
theorem lastW_step (s : Str) {i : Nat} (h : i < 10) (a : Int) : lastW s (wordL.drop i) i a = lastW s (wordL.drop (i + 1)) (i + 1) (if wordL.getD i ⟨#[]⟩ = s then i else a) := by
  have : i < wordL.length := h
  rw [List.drop_eq_getElem_cons this, lastW, List.getD_eq_getElem?_getD, List.getElem?_eq_getElem this]
  rfl
theorem wcs_eq : [.str ⟨#[]⟩, .str ⟨#[114, 101, 115, 116, 111, 99, 107]⟩, .str ⟨#[100, 101, 112, 111, 115, 105, 116]⟩, .str ⟨#[112, 108, 97, 99, 101]⟩, .str ⟨#[97, 109, 101, 110, 100]⟩, .str ⟨#[99, 97, 110, 99, 101, 108]⟩, .str ⟨#[112, 97, 121]⟩, .str ⟨#[115, 104, 105, 112]⟩, .str ⟨#[114, 101, 102, 117, 110, 100]⟩, .str ⟨#[112, 114, 105, 99, 101]⟩] = wcs := rfl
@[go_sem] theorem wcs_self (H0 H ρ) : le.leC H0 H ρ wcs wcs = True := by simp [wcs, wordL, go_sem]
theorem wcs_len : wcs.length = 10 := rfl
def namesI (k : Int) (s : Str) (i : Nat) (a : Int) : St := ⟨ofL [(0, .int .i64 k), (1, .str s), (5, .ref (0, 80) 0), (6, .str (nameW k)), (7, .int .i64 a), (8, .int .i64 i)], hOf [((0, 80), .obj wcs)]⟩

structure bookingNamesX where
  k : Int
  s : Str
/-- BookingNames -/
noncomputable def bookingNamesS : HSpec := mkH (ι := bookingNamesX) (fun ⟨k, s⟩ => ([.int .i64 k, .str s], [])) fun ⟨k, s⟩ => ⟨.bool true, [], []⟩
theorem bookingNamesS_atG (k : Int) (s : Str) : bookingNamesS [.int .i64 k, .str s] [] = some (⟨.bool true, [], []⟩) :=
  mkH_at (ι := bookingNamesX) (A := fun ⟨k, s⟩ => ([.int .i64 k, .str s], [])) (R := fun ⟨k, s⟩ => ⟨.bool true, [], []⟩) (fun i j h => by obtain ⟨k, s⟩ := i; obtain ⟨k2, s2⟩ := j; simp [and_assoc, cBk_eq_iff, cId_eq_iff, cOrd_eq_iff, cChg_eq_iff, cEff_eq_iff, cKey_eq_iff, cReq_eq_iff, cV_eq_iff, cOp_eq_iff, cOc_eq_iff] at h; obtain ⟨rfl, rfl⟩ := h; rfl) ⟨k, s⟩
theorem bookingNamesS_at (k : Int) (s : Str) : bookingNamesS [.int .i64 k, .str s] [] = some (⟨.bool true, [], []⟩) := bookingNamesS_atG k s

theorem bookingNames_ok : HSound Try.prog 5 bookingNamesS := by
  refine sound_ofE (fn := Try.f5) rfl rfl (by kernel_rfl) fun args bx hr hS => ?_
  obtain ⟨⟨k, s⟩, rfl, rfl, rfl⟩ := mkH_of hS
  clear hS
  refine ⟨_, (EnvOK.consH (g := 13) (by kernel_rfl) alive16_ok (EnvOK.consV (g := 19) (by kernel_rfl) name_ok (EnvOK.consV (g := 20) (by kernel_rfl) kind_ok (EnvOK.nil _)))), by simp [Try.f5], by simp [go_sem], fun w Mx pin => ?_⟩
  simp only [hB_at, lab_nil, lab_cons, hOf_nil, hOf_cons]
  refine awp_seq fun K1 hK1 => ?_
  refine awp_region ?_
  iterate 1
    refine opsK_cons fun J hJ => ?_
    simp [go_sem]
    refine hJ _ _ _ ?_
    clear hJ J
  refine opsK_nil ?_
  refine hK1 _ ?_
  clear hK1
  refine awp_seq fun K2 hK2 => ?_
  refine awp_seq fun K3 hK3 => ?_
  refine awp_region ?_
  iterate 2
    refine opsK_cons fun J hJ => ?_
    simp [go_sem, alive16S_at]
    refine hJ _ _ _ ?_
    clear hJ J
  refine opsK_nil ?_
  refine hK3 _ ?_
  clear hK3
  refine awp_condF rfl ?_
  refine awp_skip ?_
  refine hK2 _ ?_
  clear hK2
  refine awp_seq fun K6 hK6 => ?_
  refine awp_region ?_
  iterate 3
    refine opsK_cons fun J hJ => ?_
    simp [go_sem]
    refine hJ _ _ _ ?_
    clear hJ J
  refine opsK_nil ?_
  refine hK6 _ ?_
  clear hK6
  refine awp_seq fun K7 hK7 => ?_
  refine awp_region ?_
  iterate 2
    refine opsK_cons fun J hJ => ?_
    simp [go_sem]
    refine hJ _ _ _ ?_
    clear hJ J
  refine opsK_nil ?_
  refine hK7 _ ?_
  clear hK7
  refine awp_seq fun K8 hK8 => ?_
  refine awp_seq fun K9 hK9 => ?_
  rcases (show (1 ≤ k ∧ k ≤ 9) ∨ (1 ≤ k ∧ ¬ k ≤ 9) ∨ ¬ 1 ≤ k by omega) with ⟨g1, g2⟩ | ⟨g1, g2⟩ | g1
  · skip
    have hn := wcs_k ⟨g1, g2⟩
    refine awp_region ?_
    iterate 6
      refine opsK_cons fun J hJ => ?_
      simp [go_sem, g1, g2]
      refine hJ _ _ _ ?_
      clear hJ J
    refine opsK_nil ?_
    refine hK9 _ ?_
    clear hK9
    refine awp_condT rfl ?_
    refine awp_region ?_
    iterate 4
      refine opsK_cons fun J hJ => ?_
      simp [go_sem, wcs_eq, hn, show 0 ≤ k by omega, show k < 10 by omega]
      refine hJ _ _ _ ?_
      clear hJ J
    refine opsK_nil ?_
    refine hK8 _ ?_
    clear hK8
    refine awp_seq fun K11 hK11 => ?_
    refine awp_seq fun K12 hK12 => ?_
    refine awp_region ?_
    iterate 1
      refine opsK_cons fun J hJ => ?_
      simp [go_sem]
      refine hJ _ _ _ ?_
      clear hJ J
    refine opsK_nil ?_
    refine hK12 _ ?_
    clear hK12
    refine awp_block ?_
    refine awp_loop (ι := { q : Nat × Int // (1 ≤ q.1 ∧ q.1 ≤ 10) ∧ lastW s (wordL.drop q.1) q.1 q.2 = kindW s }) (fun q => namesI k s q.1.1 q.1.2) (fun q => 10 - q.1.1) ⟨(1, 0), by omega, lastW_kind s⟩ ?_ ?_
    · refine weak_of [((0, 80), some (0, 80))] (by simp [go_sem]) ?_ ?_ <;> simp [go_sem, hn, wcs_eq]
    intro ⟨⟨i, a⟩, ⟨h1, h2⟩, hinv⟩
    simp only at h1 h2 hinv
    simp only [namesI]
    refine awp_seq fun K13 hK13 => ?_
    refine awp_seq fun K14 hK14 => ?_
    refine awp_region ?_
    iterate 2
      refine opsK_cons fun J hJ => ?_
      simp [go_sem]
      refine hJ _ _ _ ?_
      clear hJ J
    refine opsK_nil ?_
    refine hK14 _ ?_
    clear hK14
    refine awp_cond (t := _) rfl (fun c15 => ?_) (fun c15 => ?_)
    · simp [go_sem] at c15
      have hi : i < 10 := by omega
      have hw := wcs_at hi
      refine awp_skip ?_
      refine hK13 _ ?_
      clear hK13
      refine awp_seq fun K16 hK16 => ?_
      refine awp_block ?_
      refine awp_seq fun K17 hK17 => ?_
      refine awp_region ?_
      iterate 5
        refine opsK_cons fun J hJ => ?_
        simp [go_sem, hw, show (i : Int) < 10 by omega, wcs_len]
        refine hJ _ _ _ ?_
        clear hJ J
      refine opsK_nil ?_
      refine hK17 _ ?_
      clear hK17
      refine awp_cond (t := _) rfl (fun c18 => ?_) (fun c18 => ?_)
      · simp [go_sem] at c18
        refine awp_region ?_
        iterate 2
          refine opsK_cons fun J hJ => ?_
          simp [go_sem]
          refine hJ _ _ _ ?_
          clear hJ J
        refine opsK_nil ?_
        refine hK16 _ ?_
        clear hK16
        refine awp_region ?_
        iterate 3
          refine opsK_cons fun J hJ => ?_
          simp [go_sem]
          refine hJ _ _ _ ?_
          clear hJ J
        refine opsK_nil ?_
        have hi : i < 10 := by omega
        rw [lastW_step s hi, List.getD_eq_getElem?_getD] at hinv
        first | rw [if_pos c18] at hinv | rw [if_neg c18] at hinv
        refine ⟨⟨(i + 1, _), by omega, hinv⟩, ?_, by simp; omega⟩
        refine weak_of [((0, 80), some (0, 80))] (by simp [go_sem]) ?_ ?_ <;> simp [go_sem, c18, wrap_at (n := (i : Int) + 1) (by omega)]
      · simp [go_sem] at c18
        refine awp_skip ?_
        refine hK16 _ ?_
        clear hK16
        refine awp_region ?_
        iterate 3
          refine opsK_cons fun J hJ => ?_
          simp [go_sem]
          refine hJ _ _ _ ?_
          clear hJ J
        refine opsK_nil ?_
        have hi : i < 10 := by omega
        rw [lastW_step s hi, List.getD_eq_getElem?_getD] at hinv
        first | rw [if_pos c18] at hinv | rw [if_neg c18] at hinv
        refine ⟨⟨(i + 1, _), by omega, hinv⟩, ?_, by simp; omega⟩
        refine weak_of [((0, 80), some (0, 80))] (by simp [go_sem]) ?_ ?_ <;> simp [go_sem, c18, wrap_at (n := (i : Int) + 1) (by omega)]
    · simp [go_sem] at c15
      obtain rfl : i = 10 := by omega
      have ha : a = kindW s := hinv
      refine awp_exit ?_
      simp only [go_sem]
      refine hK11 _ ?_
      clear hK11
      refine awp_seq fun K19 hK19 => ?_
      refine awp_region ?_
      iterate 11
        refine opsK_cons fun J hJ => ?_
        simp [go_sem, nameS_at, kindS_at, ha]
        refine hJ _ _ _ ?_
        clear hJ J
      refine opsK_nil ?_
      refine hK19 _ ?_
      clear hK19
      refine awp_ret ?_
      refine finWQ_of [] ?_
      simp [go_sem, Try.f5]
  · skip
    have hn : nameW k = ⟨#[]⟩ := if_neg (by omega)
    refine awp_region ?_
    iterate 6
      refine opsK_cons fun J hJ => ?_
      simp [go_sem, g1, g2]
      refine hJ _ _ _ ?_
      clear hJ J
    refine opsK_nil ?_
    refine hK9 _ ?_
    clear hK9
    refine awp_condF rfl ?_
    refine awp_skip ?_
    refine hK8 _ ?_
    clear hK8
    refine awp_seq fun K11 hK11 => ?_
    refine awp_seq fun K12 hK12 => ?_
    refine awp_region ?_
    iterate 1
      refine opsK_cons fun J hJ => ?_
      simp [go_sem]
      refine hJ _ _ _ ?_
      clear hJ J
    refine opsK_nil ?_
    refine hK12 _ ?_
    clear hK12
    refine awp_block ?_
    refine awp_loop (ι := { q : Nat × Int // (1 ≤ q.1 ∧ q.1 ≤ 10) ∧ lastW s (wordL.drop q.1) q.1 q.2 = kindW s }) (fun q => namesI k s q.1.1 q.1.2) (fun q => 10 - q.1.1) ⟨(1, 0), by omega, lastW_kind s⟩ ?_ ?_
    · refine weak_of [((0, 80), some (0, 80))] (by simp [go_sem]) ?_ ?_ <;> simp [go_sem, hn, wcs_eq]
    intro ⟨⟨i, a⟩, ⟨h1, h2⟩, hinv⟩
    simp only at h1 h2 hinv
    simp only [namesI]
    refine awp_seq fun K13 hK13 => ?_
    refine awp_seq fun K14 hK14 => ?_
    refine awp_region ?_
    iterate 2
      refine opsK_cons fun J hJ => ?_
      simp [go_sem]
      refine hJ _ _ _ ?_
      clear hJ J
    refine opsK_nil ?_
    refine hK14 _ ?_
    clear hK14
    refine awp_cond (t := _) rfl (fun c15 => ?_) (fun c15 => ?_)
    · simp [go_sem] at c15
      have hi : i < 10 := by omega
      have hw := wcs_at hi
      refine awp_skip ?_
      refine hK13 _ ?_
      clear hK13
      refine awp_seq fun K16 hK16 => ?_
      refine awp_block ?_
      refine awp_seq fun K17 hK17 => ?_
      refine awp_region ?_
      iterate 5
        refine opsK_cons fun J hJ => ?_
        simp [go_sem, hw, show (i : Int) < 10 by omega, wcs_len]
        refine hJ _ _ _ ?_
        clear hJ J
      refine opsK_nil ?_
      refine hK17 _ ?_
      clear hK17
      refine awp_cond (t := _) rfl (fun c18 => ?_) (fun c18 => ?_)
      · simp [go_sem] at c18
        refine awp_region ?_
        iterate 2
          refine opsK_cons fun J hJ => ?_
          simp [go_sem]
          refine hJ _ _ _ ?_
          clear hJ J
        refine opsK_nil ?_
        refine hK16 _ ?_
        clear hK16
        refine awp_region ?_
        iterate 3
          refine opsK_cons fun J hJ => ?_
          simp [go_sem]
          refine hJ _ _ _ ?_
          clear hJ J
        refine opsK_nil ?_
        have hi : i < 10 := by omega
        rw [lastW_step s hi, List.getD_eq_getElem?_getD] at hinv
        first | rw [if_pos c18] at hinv | rw [if_neg c18] at hinv
        refine ⟨⟨(i + 1, _), by omega, hinv⟩, ?_, by simp; omega⟩
        refine weak_of [((0, 80), some (0, 80))] (by simp [go_sem]) ?_ ?_ <;> simp [go_sem, c18, wrap_at (n := (i : Int) + 1) (by omega)]
      · simp [go_sem] at c18
        refine awp_skip ?_
        refine hK16 _ ?_
        clear hK16
        refine awp_region ?_
        iterate 3
          refine opsK_cons fun J hJ => ?_
          simp [go_sem]
          refine hJ _ _ _ ?_
          clear hJ J
        refine opsK_nil ?_
        have hi : i < 10 := by omega
        rw [lastW_step s hi, List.getD_eq_getElem?_getD] at hinv
        first | rw [if_pos c18] at hinv | rw [if_neg c18] at hinv
        refine ⟨⟨(i + 1, _), by omega, hinv⟩, ?_, by simp; omega⟩
        refine weak_of [((0, 80), some (0, 80))] (by simp [go_sem]) ?_ ?_ <;> simp [go_sem, c18, wrap_at (n := (i : Int) + 1) (by omega)]
    · simp [go_sem] at c15
      obtain rfl : i = 10 := by omega
      have ha : a = kindW s := hinv
      refine awp_exit ?_
      simp only [go_sem]
      refine hK11 _ ?_
      clear hK11
      refine awp_seq fun K19 hK19 => ?_
      refine awp_region ?_
      iterate 11
        refine opsK_cons fun J hJ => ?_
        simp [go_sem, nameS_at, kindS_at, ha]
        refine hJ _ _ _ ?_
        clear hJ J
      refine opsK_nil ?_
      refine hK19 _ ?_
      clear hK19
      refine awp_ret ?_
      refine finWQ_of [] ?_
      simp [go_sem, Try.f5]
  · skip
    have hn : nameW k = ⟨#[]⟩ := if_neg (by omega)
    refine awp_region ?_
    iterate 6
      refine opsK_cons fun J hJ => ?_
      simp [go_sem, g1]
      refine hJ _ _ _ ?_
      clear hJ J
    refine opsK_nil ?_
    refine hK9 _ ?_
    clear hK9
    refine awp_condF rfl ?_
    refine awp_skip ?_
    refine hK8 _ ?_
    clear hK8
    refine awp_seq fun K11 hK11 => ?_
    refine awp_seq fun K12 hK12 => ?_
    refine awp_region ?_
    iterate 1
      refine opsK_cons fun J hJ => ?_
      simp [go_sem]
      refine hJ _ _ _ ?_
      clear hJ J
    refine opsK_nil ?_
    refine hK12 _ ?_
    clear hK12
    refine awp_block ?_
    refine awp_loop (ι := { q : Nat × Int // (1 ≤ q.1 ∧ q.1 ≤ 10) ∧ lastW s (wordL.drop q.1) q.1 q.2 = kindW s }) (fun q => namesI k s q.1.1 q.1.2) (fun q => 10 - q.1.1) ⟨(1, 0), by omega, lastW_kind s⟩ ?_ ?_
    · refine weak_of [((0, 80), some (0, 80))] (by simp [go_sem]) ?_ ?_ <;> simp [go_sem, hn, wcs_eq]
    intro ⟨⟨i, a⟩, ⟨h1, h2⟩, hinv⟩
    simp only at h1 h2 hinv
    simp only [namesI]
    refine awp_seq fun K13 hK13 => ?_
    refine awp_seq fun K14 hK14 => ?_
    refine awp_region ?_
    iterate 2
      refine opsK_cons fun J hJ => ?_
      simp [go_sem]
      refine hJ _ _ _ ?_
      clear hJ J
    refine opsK_nil ?_
    refine hK14 _ ?_
    clear hK14
    refine awp_cond (t := _) rfl (fun c15 => ?_) (fun c15 => ?_)
    · simp [go_sem] at c15
      have hi : i < 10 := by omega
      have hw := wcs_at hi
      refine awp_skip ?_
      refine hK13 _ ?_
      clear hK13
      refine awp_seq fun K16 hK16 => ?_
      refine awp_block ?_
      refine awp_seq fun K17 hK17 => ?_
      refine awp_region ?_
      iterate 5
        refine opsK_cons fun J hJ => ?_
        simp [go_sem, hw, show (i : Int) < 10 by omega, wcs_len]
        refine hJ _ _ _ ?_
        clear hJ J
      refine opsK_nil ?_
      refine hK17 _ ?_
      clear hK17
      refine awp_cond (t := _) rfl (fun c18 => ?_) (fun c18 => ?_)
      · simp [go_sem] at c18
        refine awp_region ?_
        iterate 2
          refine opsK_cons fun J hJ => ?_
          simp [go_sem]
          refine hJ _ _ _ ?_
          clear hJ J
        refine opsK_nil ?_
        refine hK16 _ ?_
        clear hK16
        refine awp_region ?_
        iterate 3
          refine opsK_cons fun J hJ => ?_
          simp [go_sem]
          refine hJ _ _ _ ?_
          clear hJ J
        refine opsK_nil ?_
        have hi : i < 10 := by omega
        rw [lastW_step s hi, List.getD_eq_getElem?_getD] at hinv
        first | rw [if_pos c18] at hinv | rw [if_neg c18] at hinv
        refine ⟨⟨(i + 1, _), by omega, hinv⟩, ?_, by simp; omega⟩
        refine weak_of [((0, 80), some (0, 80))] (by simp [go_sem]) ?_ ?_ <;> simp [go_sem, c18, wrap_at (n := (i : Int) + 1) (by omega)]
      · simp [go_sem] at c18
        refine awp_skip ?_
        refine hK16 _ ?_
        clear hK16
        refine awp_region ?_
        iterate 3
          refine opsK_cons fun J hJ => ?_
          simp [go_sem]
          refine hJ _ _ _ ?_
          clear hJ J
        refine opsK_nil ?_
        have hi : i < 10 := by omega
        rw [lastW_step s hi, List.getD_eq_getElem?_getD] at hinv
        first | rw [if_pos c18] at hinv | rw [if_neg c18] at hinv
        refine ⟨⟨(i + 1, _), by omega, hinv⟩, ?_, by simp; omega⟩
        refine weak_of [((0, 80), some (0, 80))] (by simp [go_sem]) ?_ ?_ <;> simp [go_sem, c18, wrap_at (n := (i : Int) + 1) (by omega)]
    · simp [go_sem] at c15
      obtain rfl : i = 10 := by omega
      have ha : a = kindW s := hinv
      refine awp_exit ?_
      simp only [go_sem]
      refine hK11 _ ?_
      clear hK11
      refine awp_seq fun K19 hK19 => ?_
      refine awp_region ?_
      iterate 11
        refine opsK_cons fun J hJ => ?_
        simp [go_sem, nameS_at, kindS_at, ha]
        refine hJ _ _ _ ?_
        clear hJ J
      refine opsK_nil ?_
      refine hK19 _ ?_
      clear hK19
      refine awp_ret ?_
      refine finWQ_of [] ?_
      simp [go_sem, Try.f5]

theorem BookingNames_walk (w : World) (i0 : Int) (_ : I64 i0) (i1 : ByteArray) :
    Calls Try.prog 5 #[.int .i64 i0, .string i1] w fun e w' => e = .returned (.bool true) ∧ Below w.heap.size w w' := by
  refine true_walk bookingNames_ok (bookingNamesS_at i0 i1) w rfl fun i v hi => ?_
  match i, hi with
  | 0, hi => cases hi; exact (.int _ _ _)
  | 1, hi => cases hi; exact (.str _ _)

end Go.Proofs.Ytiifcalgolkpiaa.AE
