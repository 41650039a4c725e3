/-
 Package vector, and ref19: contracts, first part. Conditions: none; every contract names its own.
-/
import Derived.Test.YtjoaigccapegpaaOLgb
import Derived.Test.YtjoaigccapegpaaORf7
import Derived.Test.YtjoaigccapegpaaPc
set_option linter.constructorNameAsVariable false
namespace Go.Proofs.Ytjoaigccapegpaa.AE
open Go Go.Proofs Go.RowKit
set_option linter.unusedVariables false
set_option linter.unusedSimpArgs false
set_option maxRecDepth 100000
set_option maxHeartbeats 4000000
def nv (x : Chg) (v : Vn 4) : Vn 4 := if 0 ≤ x.id.rep ∧ x.id.rep < 4 then v.put x.id.rep.toNat (mx (v.at x.id.rep.toNat) x.id.seq) else v
def vecOfI (L : List Chg) (pre _post : List Chg) (v : Vn 4) : St := ⟨ofL [(2, .ref (0, 32) 0), (3, .ref (0, 48) 0), (7, .sl 9 (rows cChg L)), (8, .int .i64 L.length), (9, .int .i64 pre.length)], hOf [((0, 32), .obj (cV (zV 4))), ((0, 48), .obj (cV v))]⟩
structure vecOfX where
 L : List Chg
 L' : AV
 h_L : SlA 9 cChg L L'
 hL : L.length ≤ 100000
noncomputable def vecOfS : HSpec := mkH (ι := vecOfX) (fun ⟨L, L', h_L, hL⟩ => ([L'], [])) fun ⟨L, L', h_L, hL⟩ => ⟨.agg (cV (knownG L (zV 4))), [], []⟩
theorem vecOfS_atG (L : List Chg) (L' : AV) (h_L : SlA 9 cChg L L') (hL : L.length ≤ 100000) : vecOfS [L'] [] = some (⟨.agg (cV (knownG L (zV 4))), [], []⟩) :=
 mA_ (ι := vecOfX) (fun i j h => by obtain ⟨L, L', h_L, hL⟩ := i; obtain ⟨L2, L'2, h_L2, hL2⟩ := j; simp [and_assoc, qB_, qI_, qO_, qC_, qE_, qK_, qR_, qV_, qP_, qOc_, rows_iff_Chg] at h; obtain rfl := h; obtain rfl := SlA.inj (fun x y h => cChg_inj h) h_L h_L2; rfl) ⟨L, L', h_L, hL⟩
theorem vecOfS_at (L : List Chg) (hL : L.length ≤ 100000) : vecOfS [(.sl 9 (rows cChg L))] [] = some (⟨.agg (cV (knownG L (zV 4))), [], []⟩) := vecOfS_atG L _ .sl hL
theorem vecOf_ok : HSound Try.prog 44 vecOfS := by
 refine sE_ (fn := Try.f44) rfl rfl (by kernel_rfl) fun args bx hr hS => ?_
 obtain ⟨⟨L, L', h_L, hL⟩, rfl, rfl, rfl⟩ := mO_ hS
 clear hS
 refine ⟨_, (eV_ (g := 69) (by kernel_rfl) there_ok (eN_ _)), by simp [Try.f44], by simp [go_sem], fun w Mx pin => ?_⟩
 simp only [hB_at, lab_nil, lab_cons, hOf_nil, hOf_cons]
 refine aW_ (s' := ⟨ofL [(0, (.sl 9 (rows cChg L)))], hOf []⟩) ?_ ?_
 · cases h_L <;> exact wO_ [] (by simp [go_sem]) (by simp [go_sem]) (by simp [go_sem])
 clear h_L
 refine aQ_ ?_
 iterate 1
  refine oC_ fun J hJ => ?_
  simp [go_sem]
  refine hJ _ _ _ ?_
 refine oN_ ?_
 refine aQ_ ?_
 iterate 1
  refine oC_ fun J hJ => ?_
  simp [go_sem]
  refine hJ _ _ _ ?_
 refine oN_ ?_
 refine aS_ fun K3 hK3 => ?_
 refine aQ_ ?_
 iterate 3
  refine oC_ fun J hJ => ?_
  simp [go_sem]
  refine hJ _ _ _ ?_
 refine oN_ ?_
 refine aB_ ?_
 refine aL_ (ι := { q : List Chg × List Chg × Vn 4 // q.1 ++ q.2.1 = L ∧ knownG q.2.1 q.2.2 = knownG L (zV 4) }) (fun q => vecOfI L q.1.1 q.1.2.1 q.1.2.2) (fun q => q.1.2.1.length) ⟨([], L, zV 4), rfl, rfl⟩ ?_ ?_
 · refine wO_ [((0, 32), some (0, 32)), ((0, 48), some (0, 48))] (by simp [go_sem]) ?_ ?_ <;> simp [go_sem]
 intro ⟨⟨pre, post, v⟩, hl, hgo⟩
 simp only at hl hgo
 have hpl := lS_ hl hL
 simp only [vecOfI]
 refine aQ_ ?_
 iterate 1
  refine oC_ fun J hJ => ?_
  simp [go_sem]
  refine hJ _ _ _ ?_
 refine oN_ ?_
 refine aS_ fun K6 hK6 => ?_
 refine aC_ (t := _) rfl (fun c7 => ?_) (fun c7 => ?_)
 ·
  simp [go_sem] at c7
  obtain ⟨x, post, rfl, hx⟩ := mL_ hl c7
  refine aK_ ?_
  refine hK6 _ ?_
  refine aS_ fun K8 hK8 => ?_
  refine aB_ ?_
  refine aQ_ ?_
  iterate 4
   refine oC_ fun J hJ => ?_
   simp [go_sem, hx]
   refine hJ _ _ _ ?_
  refine oN_ ?_
  refine aQ_ ?_
  iterate 4
   refine oC_ fun J hJ => ?_
   simp [go_sem]
   refine hJ _ _ _ ?_
  refine oN_ ?_
  refine aQ_ ?_
  iterate 2
   refine oC_ fun J hJ => ?_
   simp [go_sem, thereS_at x.id.rep]
   refine hJ _ _ _ ?_
  refine oN_ ?_
  refine aC_ (t := _) rfl (fun c12 => ?_) (fun c12 => ?_)
  ·
   simp [go_sem] at c12
   obtain ⟨h0, h4⟩ := c12
   have h5 : x.id.rep.toNat < 4 := by omega
   have h6 : x.id.rep ≤ 3 := by omega
   have hnv : nv x v = v.put x.id.rep.toNat (mx (v.at x.id.rep.toNat) x.id.seq) := if_pos ⟨h0, h4⟩
   refine aD_ ?_
   iterate 10
    refine oC_ fun J hJ => ?_
    simp [go_sem, h0, h4, h5, h6, cV_over]
    refine hJ _ _ _ ?_
   refine oN_ ?_
   refine ⟨rfl, ?_⟩
   refine hK8 _ ?_
   refine aR_ ?_
   iterate 2
    refine oC_ fun J hJ => ?_
    simp [go_sem]
    refine hJ _ _ _ ?_
   refine oN_ ?_
   refine ⟨⟨(pre ++ [x], post, nv x v), by simp [← hl], by rw [← hgo]; rfl⟩, ?_, by simp⟩
   refine wO_ [((0, 32), some (0, 32)), ((0, 48), some (0, 48))] (by simp [go_sem]) ?_ ?_ <;> simp [go_sem, wN_ hpl, ↓hnv]
  ·
   simp [go_sem] at c12
   have hnv : nv x v = v := if_neg (by omega)
   refine aK_ ?_
   refine hK8 _ ?_
   refine aR_ ?_
   iterate 2
    refine oC_ fun J hJ => ?_
    simp [go_sem]
    refine hJ _ _ _ ?_
   refine oN_ ?_
   refine ⟨⟨(pre ++ [x], post, nv x v), by simp [← hl], by rw [← hgo]; rfl⟩, ?_, by simp⟩
   refine wO_ [((0, 32), some (0, 32)), ((0, 48), some (0, 48))] (by simp [go_sem]) ?_ ?_ <;> simp [go_sem, wN_ hpl, ↓hnv]
 ·
  simp [go_sem] at c7
  obtain ⟨rfl, rfl⟩ := mN_ hl c7
  simp only [knownG] at hgo
  refine aX_ ?_
  simp only [go_sem]
  refine hK3 _ ?_
  refine aQ_ ?_
  iterate 2
   refine oC_ fun J hJ => ?_
   simp [go_sem]
   refine hJ _ _ _ ?_
  refine oN_ ?_
  refine aE_ ?_
  refine fQ_ [] ?_
  simp [go_sem, Try.f44, hgo]
def zOc : Outc := ⟨0, []⟩
def outG (d r : List Chg) (a : Id) : Outc := if placeC (d ++ r) a < 0 then zOc else ((oD (d ++ r))[(placeC (d ++ r) a).toNat]?).getD zOc
def goodG (d r : List Chg) (a : Id) : Bool := decide (0 ≤ placeC (d ++ r) a ∧ placeC (d ++ r) a < d.length)
def wasG (d r : List Chg) (a : Id) : Bool := decide (0 ≤ placeC (d ++ r) a)
end Go.Proofs.Ytjoaigccapegpaa.AE
