/-
 Law 07: StampSorts. Conditions: none; every contract names its own.
-/
import Derived.Test.YtebflegkdfhoaaaOLw07b
import Derived.Test.YtebflegkdfhoaaaOSg3
import Derived.Test.YtebflegkdfhoaaaORf7
import Derived.Test.YtebflegkdfhoaaaPe
set_option linter.constructorNameAsVariable false
namespace Go.Proofs.Ytebflegkdfhoaaa.AE
open Go Go.Proofs Go.RowKit
set_option linter.unusedVariables false
set_option linter.unusedSimpArgs false
set_option maxRecDepth 100000
set_option maxHeartbeats 4000000
theorem putG_spec (c : Chg) : ∀ (l : List Chg) (n k : Nat), (putG c l n k = k ∧ ∀ x ∈ l, lessChg c x = true) ∨ (∃ U x V, l = U ++ x :: V ∧ putG c l n k = n + U.length + 1 ∧ lessChg c x = false ∧ ∀ y ∈ V, lessChg c y = true)
 | [], n, k => .inl ⟨rfl, fun x h => by simp at h⟩
 | y :: r, n, k => by
  rcases putG_spec c r (n + 1) (if lessChg c y = true then k else n + 1) with ⟨h1, h2⟩ | ⟨U, x, V, h1, h2, h3, h4⟩
  ·
   cases hy : lessChg c y with
   | true =>
    rw [hy] at h1
    refine .inl ⟨by simpa [putG, hy] using h1, fun x hx => ?_⟩
    rcases List.mem_cons.1 hx with rfl | hx
    · exact hy
    · exact h2 x hx
   | false =>
    rw [hy] at h1
    exact .inr ⟨[], y, r, rfl, by simpa [putG, hy] using h1, hy, h2⟩
  · exact .inr ⟨y :: U, x, V, by rw [h1]; rfl, by simp only [putG, h2, List.length_cons]; omega, h3, h4⟩
theorem less_iff (a b : Chg) : lessChg a b = true ↔ ordChg a b < 0 := by simp [lessChg]
theorem less_not (a b : Chg) : lessChg a b = false ↔ ¬ ordChg a b < 0 := by simp [lessChg]
theorem cputL_mrg (c : Chg) {X : List Chg} (hX : Srt ordChg X) : cputL c X = mrg ordChg X [c] := by
 unfold cputL putAt
 rcases putG_spec c X 0 0 with ⟨h1, h2⟩ | ⟨U, x, V, rfl, h2, h3, h4⟩
 ·
  rw [h1]
  have := mrg_one (U := []) (V := X) (y := c) ordr_chg hX (fun u hu => by simp at hu) (fun v hv => (less_iff c v).1 (h2 v hv))
  simp only [List.nil_append] at this
  rw [this]
  simp
 ·
  rw [h2]
  have e : U ++ x :: V = (U ++ [x]) ++ V := by simp
  have hs := hX
  rw [e] at hs
  have := mrg_one (U := U ++ [x]) (V := V) (y := c) ordr_chg hs (fun u hu => by
   rcases List.mem_append.1 hu with hu | hu
   ·
    have h5 := (List.pairwise_append.1 hX).2.2 u hu x (by simp)
    exact ordr_chg.tr u x c h5 ((less_not c x).1 h3)
   ·
    rw [List.mem_singleton.1 hu]
    exact (less_not c x).1 h3) (fun v hv => (less_iff c v).1 (h4 v hv))
  rw [e, this, List.take_left' (by simp), List.drop_left' (by simp)]
  simp
theorem cput_ord (l : List Chg) (c : Chg) : cputL c (ordL ordChg l) = ordL ordChg (l ++ [c]) := by
 rw [cputL_mrg c (ordL_srt ordr_chg l), ordL_snoc ordr_chg]
theorem ord_fine (l : List Chg) {k : Nat} {x y : Chg} (hx : (ordL ordChg l)[k]? = some x) (hy : (ordL ordChg l)[k + 1]? = some y) : lessChg y x = false :=
 (less_not y x).2 (ordL_ordered ordr_chg hx hy)
structure sortedAX where
 l : List Chg
 l' : AV
 h_l : SlA 9 cChg l l'
 hL : l.length ≤ 100000
noncomputable def sortedAS : HSpec := mkH (ι := sortedAX) (fun ⟨l, l', h_l, hL⟩ => ([l'], [])) fun ⟨l, l', h_l, hL⟩ => ⟨.own (2, 0) l.length, [], [.row 26 9 (rows cChg (ordL ordChg l)) false]⟩
theorem sortedAS_atG (l : List Chg) (l' : AV) (h_l : SlA 9 cChg l l') (hL : l.length ≤ 100000) : sortedAS [l'] [] = some (⟨.own (2, 0) l.length, [], [.row 26 9 (rows cChg (ordL ordChg l)) false]⟩) :=
 mA_ (ι := sortedAX) (fun i j h => by obtain ⟨l, l', h_l, hL⟩ := i; obtain ⟨l2, l'2, h_l2, hL2⟩ := j; simp [and_assoc, qB_, qI_, qO_, qC_, qE_, qK_, qR_, qV_, qP_, qOc_] at h; obtain rfl := h; obtain rfl := SlA.inj (fun x y h => cChg_inj h) h_l h_l2; rfl) ⟨l, l', h_l, hL⟩
theorem sortedAS_at (l : List Chg) (hL : l.length ≤ 100000) : sortedAS [(.sl 9 (rows cChg l))] [] = some (⟨.own (2, 0) l.length, [], [.row 26 9 (rows cChg (ordL ordChg l)) false]⟩) := sortedAS_atG l _ .sl hL
theorem sortedAS_atN : sortedAS [.nils] [] = some ((fun (l : List Chg) => ⟨.own (2, 0) l.length, [], [.row 26 9 (rows cChg (ordL ordChg l)) false]⟩) []) := sortedAS_atG [] _ .nil (by simp)
theorem sortedA_ok : HSound Try.prog 48 sortedAS := by
 refine sE_ (fn := Try.f48) rfl rfl (by kernel_rfl) fun args bx hr hS => ?_
 obtain ⟨⟨l, l', h_l, hL⟩, rfl, rfl, rfl⟩ := mO_ hS
 clear hS
 refine ⟨_, (eV_ (g := 54) (by kernel_rfl) cloneChg_ok (eH_ (g := 69) (by kernel_rfl) soSChg_ok (eN_ _))), by simp [Try.f48], by simp [go_sem], fun w Mx pin => ?_⟩
 simp only [hB_at, lab_nil, lab_cons, hOf_nil, hOf_cons]
 refine aW_ (s' := ⟨ofL [(0, (.sl 9 (rows cChg l)))], hOf []⟩) ?_ ?_
 · cases h_l <;> exact wO_ [] (by simp [go_sem]) (by simp [go_sem]) (by simp [go_sem])
 clear h_l
 refine aQ_ ?_
 iterate 1
  refine oC_ fun J hJ => ?_
  simp [go_sem]
  refine hJ _ _ _ ?_
 refine oN_ ?_
 refine aQ_ ?_
 iterate 3
  refine oC_ fun J hJ => ?_
  simp [go_sem, cloneChgS_at l hL]
  refine hJ _ _ _ ?_
 refine oN_ ?_
 refine aQ_ ?_
 iterate 2
  refine oC_ fun J hJ => ?_
  simp [go_sem, soSChg_at l hL]
  refine hJ _ _ _ ?_
 refine oN_ ?_
 refine aQ_ ?_
 iterate 2
  refine oC_ fun J hJ => ?_
  simp [go_sem]
  refine hJ _ _ _ ?_
 refine oN_ ?_
 refine aE_ ?_
 refine fQ_ [((2, 0), some (0, 80))] ?_
 simp [go_sem, Try.f48, ordL_len]
structure sortedRX where
 l : List Chg
 l' : AV
 h_l : SlA 9 cChg l l'
 hL : l.length ≤ 50000
noncomputable def sortedRS : HSpec := mkH (ι := sortedRX) (fun ⟨l, l', h_l, hL⟩ => ([l'], [])) fun ⟨l, l', h_l, hL⟩ => ⟨.sl 9 (rows cChg (ordL ordChg l)), [], []⟩
theorem sortedRS_atG (l : List Chg) (l' : AV) (h_l : SlA 9 cChg l l') (hL : l.length ≤ 50000) : sortedRS [l'] [] = some (⟨.sl 9 (rows cChg (ordL ordChg l)), [], []⟩) :=
 mA_ (ι := sortedRX) (fun i j h => by obtain ⟨l, l', h_l, hL⟩ := i; obtain ⟨l2, l'2, h_l2, hL2⟩ := j; simp [and_assoc, qB_, qI_, qO_, qC_, qE_, qK_, qR_, qV_, qP_, qOc_] at h; obtain rfl := h; obtain rfl := SlA.inj (fun x y h => cChg_inj h) h_l h_l2; rfl) ⟨l, l', h_l, hL⟩
theorem sortedRS_at (l : List Chg) (hL : l.length ≤ 50000) : sortedRS [(.sl 9 (rows cChg l))] [] = some (⟨.sl 9 (rows cChg (ordL ordChg l)), [], []⟩) := sortedRS_atG l _ .sl hL
theorem sortedRS_atN : sortedRS [.nils] [] = some ((fun (l : List Chg) => ⟨.sl 9 (rows cChg (ordL ordChg l)), [], []⟩) []) := sortedRS_atG [] _ .nil (by simp)
def sortedRI (l pre _post : List Chg) : St := ⟨ofL [(0, .sl 9 (rows cChg l)), (3, .sl 9 (rows cChg (ordL ordChg pre))), (4, .int .i64 pre.length)], hOf []⟩
theorem sortedR_ok : HSound Try.prog 49 sortedRS := by
 refine sE_ (fn := Try.f49) rfl rfl (by kernel_rfl) fun args bx hr hS => ?_
 obtain ⟨⟨l, l', h_l, hL⟩, rfl, rfl, rfl⟩ := mO_ hS
 clear hS
 refine ⟨_, (eV_ (g := 43) (by kernel_rfl) putCR_ok (eN_ _)), by simp [Try.f49], by simp [go_sem], fun w Mx pin => ?_⟩
 simp only [hB_at, lab_nil, lab_cons, hOf_nil, hOf_cons]
 refine aW_ (s' := ⟨ofL [(0, (.sl 9 (rows cChg l)))], hOf []⟩) ?_ ?_
 · cases h_l <;> exact wO_ [] (by simp [go_sem]) (by simp [go_sem]) (by simp [go_sem])
 clear h_l
 have hL1 : l.length ≤ 100000 := by omega
 refine aQ_ ?_
 iterate 1
  refine oC_ fun J hJ => ?_
  simp [go_sem]
  refine hJ _ _ _ ?_
 refine oN_ ?_
 refine aQ_ ?_
 iterate 1
  refine oC_ fun J hJ => ?_
  simp [go_sem]
  refine hJ _ _ _ ?_
 refine oN_ ?_
 refine aS_ fun K3 hK3 => ?_
 refine aQ_ ?_
 iterate 1
  refine oC_ fun J hJ => ?_
  simp [go_sem]
  refine hJ _ _ _ ?_
 refine oN_ ?_
 refine aB_ ?_
 refine aL_ (ι := { q : List Chg × List Chg // q.1 ++ q.2 = l ∧ True }) (fun q => sortedRI l q.1.1 q.1.2) (fun q => q.1.2.length) ⟨([], l), rfl, trivial⟩ ?_ ?_
 · refine wO_ [] (by simp [go_sem]) ?_ ?_ <;> simp [go_sem, ordL]
 intro ⟨⟨pre, post⟩, hl, hgo⟩
 simp only at hl hgo
 have hpl := lS_ hl hL1
 simp only [sortedRI]
 refine aS_ fun K5 hK5 => ?_
 refine aQ_ ?_
 iterate 4
  refine oC_ fun J hJ => ?_
  simp [go_sem]
  refine hJ _ _ _ ?_
 refine oN_ ?_
 refine aC_ (t := _) rfl (fun c7 => ?_) (fun c7 => ?_)
 ·
  simp [go_sem] at c7
  obtain ⟨x, post, rfl, hx⟩ := mL_ hl c7
  obtain ⟨M, hM⟩ : ∃ M, M = ordL ordChg pre := ⟨_, rfl⟩
  have hMl : M.length ≤ 50000 := by
   have h1 := congrArg List.length hl
   simp only [List.length_append] at h1
   rw [hM, ordL_len]
   omega
  rw [← hM]
  have hcp : cputL x M = ordL ordChg (pre ++ [x]) := by rw [hM, cput_ord]
  refine aK_ ?_
  refine hK5 _ ?_
  refine aS_ fun K8 hK8 => ?_
  refine aB_ ?_
  refine aR_ ?_
  iterate 7
   refine oC_ fun J hJ => ?_
   simp [go_sem, hx, putCRS_at M x hMl, hcp]
   refine hJ _ _ _ ?_
  refine oN_ ?_
  refine hK8 _ ?_
  refine aR_ ?_
  iterate 3
   refine oC_ fun J hJ => ?_
   simp [go_sem]
   refine hJ _ _ _ ?_
  refine oN_ ?_
  refine ⟨⟨(pre ++ [x], post), by simp [← hl], by exact trivial⟩, ?_, by simp⟩
  refine wO_ [] (by simp [go_sem]) ?_ ?_ <;> simp [go_sem, wN_ hpl, ← hM, cput_ord]
 ·
  simp [go_sem] at c7
  obtain ⟨rfl, rfl⟩ := mN_ hl c7
  refine aX_ ?_
  simp only [go_sem]
  refine hK3 _ ?_
  refine aQ_ ?_
  iterate 2
   refine oC_ fun J hJ => ?_
   simp [go_sem]
   refine hJ _ _ _ ?_
  refine oN_ ?_
  refine aE_ ?_
  refine fQ_ [] ?_
  simp [go_sem, Try.f49]
structure stampSortsX where
 l : List Chg
 l' : AV
 h_l : SlA 9 cChg l l'
noncomputable def stampSortsS : HSpec := mkH (ι := stampSortsX) (fun ⟨l, l', h_l⟩ => ([l'], [])) fun ⟨l, l', h_l⟩ => ⟨.bool true, [], []⟩
theorem stampSortsS_atG (l : List Chg) (l' : AV) (h_l : SlA 9 cChg l l') : stampSortsS [l'] [] = some (⟨.bool true, [], []⟩) :=
 mA_ (ι := stampSortsX) (fun i j h => by obtain ⟨l, l', h_l⟩ := i; obtain ⟨l2, l'2, h_l2⟩ := j; simp [and_assoc, qB_, qI_, qO_, qC_, qE_, qK_, qR_, qV_, qP_, qOc_] at h; obtain rfl := h; obtain rfl := SlA.inj (fun x y h => cChg_inj h) h_l h_l2; rfl) ⟨l, l', h_l⟩
theorem stampSortsS_at (l : List Chg) : stampSortsS [(.sl 9 (rows cChg l))] [] = some (⟨.bool true, [], []⟩) := stampSortsS_atG l _ .sl
theorem stampSortsS_atN : stampSortsS [.nils] [] = some ((fun (l : List Chg) => ⟨.bool true, [], []⟩) []) := stampSortsS_atG [] _ .nil
def stampSortsI (L pre _post : List Chg) : St := ⟨ofL [(0, .sl 9 (rows cChg L)), (3, .sl 9 (rows cChg (ordL ordChg pre))), (4, .int .i64 pre.length)], hOf []⟩
def stampSortsJ (L SS : List Chg) (k : Nat) : St := ⟨ofL [(0, .sl 9 (rows cChg L)), (3, .sl 9 (rows cChg SS)), (5, .sl 9 (rows cChg SS)), (6, .int .i64 ((k : Int) + 1))], hOf []⟩
theorem stampSorts_ok : HSound Try.prog 11 stampSortsS := by
 refine sE_ (fn := Try.f11) rfl rfl (by kernel_rfl) fun args bx hr hS => ?_
 obtain ⟨⟨l, l', h_l⟩, rfl, rfl, rfl⟩ := mO_ hS
 clear hS
 refine ⟨_, (eV_ (g := 37) (by kernel_rfl) alive07_ok (eV_ (g := 38) (by kernel_rfl) lessChg_ok (eV_ (g := 48) (by kernel_rfl) sortedA_ok (eV_ (g := 40) (by kernel_rfl) few07_ok (eV_ (g := 41) (by kernel_rfl) putC_ok (eV_ (g := 49) (by kernel_rfl) sortedR_ok (eV_ (g := 21) (by kernel_rfl) plChg_ok (eN_ _)))))))), by simp [Try.f11], by simp [go_sem], fun w Mx pin => ?_⟩
 simp only [hB_at, lab_nil, lab_cons, hOf_nil, hOf_cons]
 refine aW_ (s' := ⟨ofL [(0, (.sl 9 (rows cChg l)))], hOf []⟩) ?_ ?_
 · cases h_l <;> exact wO_ [] (by simp [go_sem]) (by simp [go_sem]) (by simp [go_sem])
 clear h_l
 obtain ⟨L, hLd⟩ : ∃ L, L = l.take 40 := ⟨_, rfl⟩
 have e40 : L.length ≤ 40 := by rw [hLd]; simp; omega
 have e6 : L.length ≤ 100000 := by omega
 obtain ⟨SS, hS⟩ : ∃ SS, SS = ordL ordChg L := ⟨_, rfl⟩
 have hSl : SS.length = L.length := by rw [hS, ordL_len]
 have htk : List.take L.length SS = SS := by rw [← hSl]; exact List.take_length
 refine aQ_ ?_
 iterate 1
  refine oC_ fun J hJ => ?_
  simp [go_sem]
  refine hJ _ _ _ ?_
 refine oN_ ?_
 refine aS_ fun K2 hK2 => ?_
 refine aQ_ ?_
 iterate 2
  refine oC_ fun J hJ => ?_
  simp [go_sem, alive07S_at]
  refine hJ _ _ _ ?_
 refine oN_ ?_
 refine aF_ rfl ?_
 refine aK_ ?_
 refine hK2 _ ?_
 refine aQ_ ?_
 iterate 3
  refine oC_ fun J hJ => ?_
  simp [go_sem, few07S_at, ← hLd]
  refine hJ _ _ _ ?_
 refine oN_ ?_
 refine aQ_ ?_
 iterate 1
  refine oC_ fun J hJ => ?_
  simp [go_sem]
  refine hJ _ _ _ ?_
 refine oN_ ?_
 refine aS_ fun K8 hK8 => ?_
 refine aQ_ ?_
 iterate 1
  refine oC_ fun J hJ => ?_
  simp [go_sem]
  refine hJ _ _ _ ?_
 refine oN_ ?_
 refine aB_ ?_
 refine aL_ (ι := { q : List Chg × List Chg // q.1 ++ q.2 = L ∧ True }) (fun q => stampSortsI L q.1.1 q.1.2) (fun q => q.1.2.length) ⟨([], L), rfl, trivial⟩ ?_ ?_
 · refine wO_ [] (by simp [go_sem]) ?_ ?_ <;> simp [go_sem, ordL]
 intro ⟨⟨pre, post⟩, hl, hgo⟩
 simp only at hl hgo
 have hpl := lS_ hl e6
 simp only [stampSortsI]
 refine aS_ fun K10 hK10 => ?_
 refine aQ_ ?_
 iterate 4
  refine oC_ fun J hJ => ?_
  simp [go_sem]
  refine hJ _ _ _ ?_
 refine oN_ ?_
 refine aC_ (t := _) rfl (fun c12 => ?_) (fun c12 => ?_)
 ·
  simp [go_sem] at c12
  obtain ⟨x, post, rfl, hx⟩ := mL_ hl c12
  obtain ⟨M, hM⟩ : ∃ M, M = ordL ordChg pre := ⟨_, rfl⟩
  have hMl : M.length ≤ 99998 := by
   have h1 := congrArg List.length hl
   simp only [List.length_append] at h1
   rw [hM, ordL_len]
   omega
  rw [← hM]
  have hcp : cputL x M = ordL ordChg (pre ++ [x]) := by rw [hM, cput_ord]
  refine aK_ ?_
  refine hK10 _ ?_
  refine aS_ fun K13 hK13 => ?_
  refine aB_ ?_
  refine aR_ ?_
  iterate 7
   refine oC_ fun J hJ => ?_
   simp [go_sem, hx, putCS_at M x hMl, hcp]
   refine hJ _ _ _ ?_
  refine oN_ ?_
  refine hK13 _ ?_
  refine aR_ ?_
  iterate 3
   refine oC_ fun J hJ => ?_
   simp [go_sem]
   refine hJ _ _ _ ?_
  refine oN_ ?_
  refine ⟨⟨(pre ++ [x], post), by simp [← hl], by exact trivial⟩, ?_, by simp⟩
  refine wO_ [] (by simp [go_sem]) ?_ ?_ <;> simp [go_sem, wN_ hpl]
 ·
  simp [go_sem] at c12
  obtain ⟨rfl, rfl⟩ := mN_ hl c12
  rw [← hS]
  refine aX_ ?_
  simp only [go_sem]
  refine hK8 _ ?_
  refine aQ_ ?_
  iterate 3
   refine oC_ fun J hJ => ?_
   simp [go_sem, sortedAS_at L e6, ← hS]
   refine hJ _ _ _ ?_
  refine oN_ ?_
  refine aS_ fun K15 hK15 => ?_
  refine aQ_ ?_
  iterate 1
   refine oC_ fun J hJ => ?_
   simp [go_sem]
   refine hJ _ _ _ ?_
  refine oN_ ?_
  refine aB_ ?_
  refine aL_ (ι := Nat) (fun k => stampSortsJ L SS k) (fun k => L.length - (k + 1)) 0 ?_ ?_
  · refine wO_ [] (by simp [go_sem]) ?_ ?_ <;> simp [go_sem, htk]
  intro k
  simp only [stampSortsJ]
  refine aS_ fun K17 hK17 => ?_
  refine aQ_ ?_
  iterate 4
   refine oC_ fun J hJ => ?_
   simp [go_sem]
   refine hJ _ _ _ ?_
  refine oN_ ?_
  refine aC_ (t := _) rfl (fun c19 => ?_) (fun c19 => ?_)
  ·
   simp [go_sem] at c19
   have hk1 : k + 1 < SS.length := by omega
   obtain ⟨u, hu⟩ : ∃ u, SS[k]? = some u := ⟨_, List.getElem?_eq_getElem (by omega)⟩
   obtain ⟨v, hv⟩ : ∃ v, SS[k + 1]? = some v := ⟨_, List.getElem?_eq_getElem hk1⟩
   have hlt : lessChg v u = false := by rw [hS] at hu hv; exact ord_fine L hu hv
   have hk0 : k < SS.length := by omega
   have hkt : ((k : Int) + 1).toNat = k + 1 := by omega
   have h0 : (0 : Int) ≤ (k : Int) + 1 := by omega
   have hkl : (k : Int) + 1 < SS.length := by omega
   have w0 : IntKind.i64.wrap (k : Int) = (k : Int) := wA_ (by omega)
   have wk : IntKind.i64.wrap ((k : Int) + 1 + 1) = (k : Int) + 1 + 1 := wA_ (by omega)
   refine aK_ ?_
   refine hK17 _ ?_
   refine aS_ fun K20 hK20 => ?_
   refine aB_ ?_
   refine aU_ ?_
   iterate 10
    refine oC_ fun J hJ => ?_
    simp [go_sem, hSl, hk1, hk0, hkt, h0, hkl, w0, ↓hu, ↓hv, hu, hv, lessChgS_at v u, hlt]
    refine hJ _ _ _ ?_
   refine oN_ ?_
   refine ⟨rfl, ?_⟩
   refine aF_ rfl ?_
   refine aK_ ?_
   refine hK20 _ ?_
   refine aR_ ?_
   iterate 3
    refine oC_ fun J hJ => ?_
    simp [go_sem, wk]
    refine hJ _ _ _ ?_
   refine oN_ ?_
   refine ⟨k + 1, ?_, by omega⟩
   refine wO_ [] (by simp [go_sem]) ?_ ?_ <;> simp [go_sem, wk]
  ·
   simp [go_sem] at c19
   refine aX_ ?_
   simp only [go_sem]
   refine hK15 _ ?_
   refine aQ_ ?_
   iterate 10
    refine oC_ fun J hJ => ?_
    simp [go_sem, plChgS_at SS SS (by omega), sortedRS_at L (by omega), ← hS]
    refine hJ _ _ _ ?_
   refine oN_ ?_
   refine aE_ ?_
   refine fQ_ [] ?_
   simp [go_sem, Try.f11]
end Go.Proofs.Ytebflegkdfhoaaa.AE
