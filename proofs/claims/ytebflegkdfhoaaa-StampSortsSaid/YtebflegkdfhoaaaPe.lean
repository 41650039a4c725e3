/-
 Package cmp: contracts. Conditions: none; every contract names its own.
-/
import Derived.Test.YtebflegkdfhoaaaPd
import Derived.Test.YtebflegkdfhoaaaPt
set_option linter.constructorNameAsVariable false
namespace Go.Proofs.Ytebflegkdfhoaaa.AE
open Go Go.Proofs Go.RowKit
set_option linter.unusedVariables false
set_option linter.unusedSimpArgs false
set_option maxRecDepth 100000
set_option maxHeartbeats 4000000
theorem mid_get {α : Type} (pre : List α) (x : α) (post : List α) : (pre ++ x :: post)[pre.length]? = some x := by simp
theorem mL_ {α : Type} {pre post L : List α} (h : pre ++ post = L) (hl : pre.length < L.length) : ∃ x r, post = x :: r ∧ L[pre.length]? = some x := by
 cases post with
 | nil => simp at h; subst h; omega
 | cons x r => exact ⟨x, r, rfl, by rw [← h]; simp⟩
theorem mN_ {α : Type} {pre post L : List α} (h : pre ++ post = L) (hl : L.length ≤ pre.length) : post = [] ∧ L = pre := by
 cases post with
 | nil => simp at h; exact ⟨rfl, h.symm⟩
 | cons x r => subst h; simp at hl; omega
theorem lS_ {α : Type} {pre post L : List α} (h : pre ++ post = L) (hL : L.length ≤ 100000) : pre.length ≤ 100000 := by subst h; simp at hL; omega
theorem wN_ {n : Nat} (h : n ≤ 100000) : IntKind.i64.wrap ((n : Int) + 1) = (n : Int) + 1 := wrap_ok (by omega) (by omega)
theorem wA_ {n : Int} (h : -4611686018427387904 ≤ n ∧ n ≤ 4611686018427387904) : IntKind.i64.wrap n = n := wrap_ok (by omega) (by omega)
@[go_sem] theorem aVal_zeros (T : TypeId → Option TI) (env : Env) (dst : Option Tmp) (ρ : Operand → AV) (H : Heap) (a x : Operand) (t t' : TypeId) (h : t' ≠ t) : aVal T env dst (.call ⟨.builtin .append, #[a, x], #[t, t']⟩) ρ H = vZeros (nid dst) (ρ a) (ρ x) (T t) ((T t).bind fun i => T i.etype) (T t') := by
 show (if t' = t then _ else _) = _
 rw [if_neg h]
@[go_sem] theorem aVal_cap (T : TypeId → Option TI) (env : Env) (dst : Option Tmp) (ρ : Operand → AV) (H : Heap) (x : Operand) (t : TypeId) : aVal T env dst (.call ⟨.builtin .cap, #[x], #[t]⟩) ρ H = vCap (ρ x) (T t) := rfl
def optC (H0 H : Heap) (ρ : Ren) (rs : List AV) : Option (List AV) → Prop
 | some vs => le.leC H0 H ρ rs vs
 | none => False
@[go_sem] theorem optC_some (H0 H ρ rs vs) : optC H0 H ρ rs (some vs) = le.leC H0 H ρ rs vs := rfl
@[go_sem] theorem resH_many (T : TypeId → Option TI) (s : St) (H : Heap) (ρ : Ren) (rs x y l) : resH T s H ρ (.tup rs) (x :: y :: l) = optC s.H H ρ rs (catV ((x :: y :: l).map (resV T s))) := by
 simp only [resH, optC]
 cases catV ((x :: y :: l).map (resV T s)) <;> rfl
@[go_sem] theorem catV_nil' : catV [] = some [] := rfl
@[go_sem] theorem catV_some' (v : AV) (l) : catV (some v :: l) = (catV l).map (v :: ·) := rfl
@[go_sem] theorem resV_tmp' (T : TypeId → Option TI) (s : St) (t) : resV T s (.tmp t) = some (s.t t) := rfl
@[go_sem] theorem resV_cell' (T : TypeId → Option TI) (s : St) (a t) : resV T s (.cell a t) = cellV T s t (s.t a) := resV_cell T s a t
theorem sE_ {P : Program} {f : FuncId} {fn : Func} {c : Code} {S : HSpec} (hf : P.funcs[f]? = some fn) (hb : fn.body = some c) (hok : codeOK P fn.ntmps c = true)
  (h : ∀ args bx hr, S args bx = some hr → ∃ env, EnvOK P env ∧ args.length ≤ fn.ntmps ∧ goOns bx hr.up ∧ ∀ (w : World) (Mx : Nat → Prop) (pin : Nat → Option (Nat × Nat)), awp ⟨P, w, Mx, fn.ntmps, pin, [], true⟩ env c (fW_ (TI.of P) fn.results.toList hr) ⟨argsF args, hB bx⟩) : HSound P f S := by
 classical
 intro args bx hr hS
 obtain ⟨env, he, h1, h2, h3⟩ := h args bx hr hS
 exact sound_ofH (S := fun a b => if a = args ∧ b = bx then some hr else none) hf hb hok he (fun a b r hr' => by
  split at hr'
  · rename_i hab; obtain ⟨rfl, rfl⟩ := hab; cases hr'; exact ⟨h1, h2, h3⟩
  · cases hr') args bx hr (if_pos ⟨rfl, rfl⟩)
theorem wrap_big {α : Type} {L : List α} {n : Nat} {x : α} (hx : L[n]? = some x) (hL : L.length ≤ 9223372036854775807) : IntKind.i64.wrap ((n : Int) + 1) = (n : Int) + 1 := by
 have := (List.getElem?_eq_some_iff.1 hx).1
 exact wrap_ok (by omega) (by omega)
def idxL {α : Type} (p : α → Bool) : List α → Nat → Int
 | [], _ => -1
 | x :: r, i => if p x = true then i else idxL p r (i + 1)
@[go_sem] theorem rows_flat {α : Type} (c : α → List AV) (x : α) (L : List α) : (rows c (x :: L)).flatten = c x ++ (rows c L).flatten := by simp [rows]
@[go_sem] theorem rows_cons_int (n : Int) (L : List Int) : [.int .i64 n] :: rows cInt L = rows cInt (n :: L) := rfl
def cmpI (a b : Int) : Int := if a < b then -1 else if a > b then 1 else 0
def orL : List Int → Int
 | [] => 0
 | x :: r => if x = 0 then orL r else x
inductive SlA {α : Type} (k : Nat) (c : α → List AV) : List α → AV → Prop
 | sl {L : List α} : SlA k c L (.sl k (rows c L))
 | nil : SlA k c [] .nils
theorem SlA.inj {α : Type} {k : Nat} {c : α → List AV} (hc : ∀ x y, c x = c y → x = y) {L M : List α} {v : AV} (h : SlA k c L v) (h' : SlA k c M v) : L = M := by
 cases h with
 | sl =>
  generalize hv : AV.sl k (rows c L) = v at h'
  cases h' with
  | sl => simp only [AV.sl.injEq, true_and] at hv; exact rows_inj hc hv
  | nil => cases hv
 | nil => cases h'; rfl
structure nanX where
 a : Int
noncomputable def nanS : HSpec := mkH (ι := nanX) (fun ⟨a⟩ => ([.int .i64 a], [])) fun ⟨a⟩ => ⟨.bool false, [], []⟩
theorem nanS_atG (a : Int) : nanS [.int .i64 a] [] = some (⟨.bool false, [], []⟩) :=
 mA_ (ι := nanX) (fun i j h => by obtain ⟨a⟩ := i; obtain ⟨a2⟩ := j; simp [and_assoc, qB_, qI_, qO_, qC_, qE_, qK_, qR_, qV_, qP_, qOc_] at h; obtain rfl := h; rfl) ⟨a⟩
theorem nanS_at (a : Int) : nanS [.int .i64 a] [] = some (⟨.bool false, [], []⟩) := nanS_atG a
theorem nan_ok : HSound Try.prog 82 nanS := by
 refine sE_ (fn := Try.f82) rfl rfl (by kernel_rfl) fun args bx hr hS => ?_
 obtain ⟨⟨a⟩, rfl, rfl, rfl⟩ := mO_ hS
 clear hS
 refine ⟨_, (eN_ _), by simp [Try.f82], by simp [go_sem], fun w Mx pin => ?_⟩
 simp only [hB_at, lab_nil, lab_cons, hOf_nil, hOf_cons]
 refine aQ_ ?_
 iterate 1
  refine oC_ fun J hJ => ?_
  simp [go_sem]
  refine hJ _ _ _ ?_
  clear hJ J
 refine oN_ ?_
 refine aQ_ ?_
 iterate 4
  refine oC_ fun J hJ => ?_
  simp [go_sem]
  refine hJ _ _ _ ?_
  clear hJ J
 refine oN_ ?_
 refine aE_ ?_
 refine fQ_ [] ?_
 simp [go_sem, Try.f82]
structure cmpX where
 a : Int
 b : Int
noncomputable def cmpS : HSpec := mkH (ι := cmpX) (fun ⟨a, b⟩ => ([.int .i64 a, .int .i64 b], [])) fun ⟨a, b⟩ => ⟨.int .i64 (cmpI a b), [], []⟩
theorem cmpS_atG (a : Int) (b : Int) : cmpS [.int .i64 a, .int .i64 b] [] = some (⟨.int .i64 (cmpI a b), [], []⟩) :=
 mA_ (ι := cmpX) (fun i j h => by obtain ⟨a, b⟩ := i; obtain ⟨a2, b2⟩ := j; simp [and_assoc, qB_, qI_, qO_, qC_, qE_, qK_, qR_, qV_, qP_, qOc_] at h; obtain ⟨rfl, rfl⟩ := h; rfl) ⟨a, b⟩
theorem cmpS_at (a : Int) (b : Int) : cmpS [.int .i64 a, .int .i64 b] [] = some (⟨.int .i64 (cmpI a b), [], []⟩) := cmpS_atG a b
theorem cmp_ok : HSound Try.prog 78 cmpS := by
 refine sE_ (fn := Try.f78) rfl rfl (by kernel_rfl) fun args bx hr hS => ?_
 obtain ⟨⟨a, b⟩, rfl, rfl, rfl⟩ := mO_ hS
 clear hS
 refine ⟨_, (eV_ (g := 82) (by kernel_rfl) nan_ok (eN_ _)), by simp [Try.f78], by simp [go_sem], fun w Mx pin => ?_⟩
 simp only [hB_at, lab_nil, lab_cons, hOf_nil, hOf_cons]
 refine aQ_ ?_
 iterate 1
  refine oC_ fun J hJ => ?_
  simp [go_sem]
  refine hJ _ _ _ ?_
  clear hJ J
 refine oN_ ?_
 refine aQ_ ?_
 iterate 3
  refine oC_ fun J hJ => ?_
  simp [go_sem, nanS_at]
  refine hJ _ _ _ ?_
  clear hJ J
 refine oN_ ?_
 refine aQ_ ?_
 iterate 3
  refine oC_ fun J hJ => ?_
  simp [go_sem, nanS_at]
  refine hJ _ _ _ ?_
  clear hJ J
 refine oN_ ?_
 refine aS_ fun K4 hK4 => ?_
 refine aQ_ ?_
 iterate 1
  refine oC_ fun J hJ => ?_
  simp [go_sem]
  refine hJ _ _ _ ?_
  clear hJ J
 refine oN_ ?_
 refine aF_ rfl ?_
 refine aK_ ?_
 refine hK4 _ ?_
 clear hK4
 refine aS_ fun K12 hK12 => ?_
 refine aQ_ ?_
 iterate 1
  refine oC_ fun J hJ => ?_
  simp [go_sem]
  refine hJ _ _ _ ?_
  clear hJ J
 refine oN_ ?_
 refine aF_ rfl ?_
 refine aK_ ?_
 refine hK12 _ ?_
 clear hK12
 refine aS_ fun K16 hK16 => ?_
 refine aQ_ ?_
 iterate 3
  refine oC_ fun J hJ => ?_
  simp [go_sem]
  refine hJ _ _ _ ?_
  clear hJ J
 refine oN_ ?_
 refine aC_ (t := _) rfl (fun c18 => ?_) (fun c18 => ?_)
 ·
  simp [go_sem] at c18
  refine aQ_ ?_
  iterate 1
   refine oC_ fun J hJ => ?_
   simp [go_sem]
   refine hJ _ _ _ ?_
   clear hJ J
  refine oN_ ?_
  refine aE_ ?_
  refine fQ_ [] ?_
  simp [go_sem, Try.f78, cmpI, c18]
 ·
  simp [go_sem] at c18
  refine aK_ ?_
  refine hK16 _ ?_
  clear hK16
  refine aS_ fun K20 hK20 => ?_
  refine aQ_ ?_
  iterate 3
   refine oC_ fun J hJ => ?_
   simp [go_sem]
   refine hJ _ _ _ ?_
   clear hJ J
  refine oN_ ?_
  refine aC_ (t := _) rfl (fun c22 => ?_) (fun c22 => ?_)
  ·
   simp [go_sem] at c22
   refine aQ_ ?_
   iterate 1
    refine oC_ fun J hJ => ?_
    simp [go_sem]
    refine hJ _ _ _ ?_
    clear hJ J
   refine oN_ ?_
   refine aE_ ?_
   refine fQ_ [] ?_
   simp [go_sem, Try.f78, cmpI, c22, show ¬ a < b by omega]
  ·
   simp [go_sem] at c22
   refine aK_ ?_
   refine hK20 _ ?_
   clear hK20
   refine aQ_ ?_
   iterate 1
    refine oC_ fun J hJ => ?_
    simp [go_sem]
    refine hJ _ _ _ ?_
    clear hJ J
   refine oN_ ?_
   refine aE_ ?_
   refine fQ_ [] ?_
   simp [go_sem, Try.f78, cmpI, show ¬ a < b by omega, show ¬ b < a by omega]
structure orX where
 L : List Int
 L' : AV
 h_L : SlA 1 cInt L L'
 hL : L.length ≤ 100000
noncomputable def orS : HSpec := mkH (ι := orX) (fun ⟨L, L', h_L, hL⟩ => ([L'], [])) fun ⟨L, L', h_L, hL⟩ => ⟨.int .i64 (orL L), [], []⟩
theorem orS_atG (L : List Int) (L' : AV) (h_L : SlA 1 cInt L L') (hL : L.length ≤ 100000) : orS [L'] [] = some (⟨.int .i64 (orL L), [], []⟩) :=
 mA_ (ι := orX) (fun i j h => by obtain ⟨L, L', h_L, hL⟩ := i; obtain ⟨L2, L'2, h_L2, hL2⟩ := j; simp [and_assoc, qB_, qI_, qO_, qC_, qE_, qK_, qR_, qV_, qP_, qOc_] at h; obtain rfl := h; obtain rfl := SlA.inj (fun x y h => cInt_inj h) h_L h_L2; rfl) ⟨L, L', h_L, hL⟩
theorem orS_at (L : List Int) (hL : L.length ≤ 100000) : orS [(.sl 1 (rows cInt L))] [] = some (⟨.int .i64 (orL L), [], []⟩) := orS_atG L _ .sl hL
theorem orS_atN : orS [.nils] [] = some ((fun (L : List Int) => ⟨.int .i64 (orL L), [], []⟩) []) := orS_atG [] _ .nil (by simp)
def orI (L : List Int) (pre _post : List Int) : St := ⟨ofL [(3, .int .i64 0), (6, .sl 1 (rows cInt L)), (7, .int .i64 L.length), (8, .int .i64 pre.length)], hOf []⟩
theorem or_ok : HSound Try.prog 77 orS := by
 refine sE_ (fn := Try.f77) rfl rfl (by kernel_rfl) fun args bx hr hS => ?_
 obtain ⟨⟨L, L', h_L, hL⟩, rfl, rfl, rfl⟩ := mO_ hS
 clear hS
 refine ⟨_, (eN_ _), by simp [Try.f77], by simp [go_sem], fun w Mx pin => ?_⟩
 simp only [hB_at, lab_nil, lab_cons, hOf_nil, hOf_cons]
 refine aW_ (s' := ⟨ofL [(0, (.sl 1 (rows cInt L)))], hOf []⟩) ?_ ?_
 · cases h_L <;> exact wO_ [] (by simp [go_sem]) (by simp [go_sem]) (by simp [go_sem])
 clear h_L
 refine aQ_ ?_
 iterate 1
  refine oC_ fun J hJ => ?_
  simp [go_sem]
  refine hJ _ _ _ ?_
  clear hJ J
 refine oN_ ?_
 refine aQ_ ?_
 iterate 1
  refine oC_ fun J hJ => ?_
  simp [go_sem]
  refine hJ _ _ _ ?_
  clear hJ J
 refine oN_ ?_
 refine aS_ fun K3 hK3 => ?_
 refine aQ_ ?_
 iterate 3
  refine oC_ fun J hJ => ?_
  simp [go_sem]
  refine hJ _ _ _ ?_
  clear hJ J
 refine oN_ ?_
 refine aB_ ?_
 refine aL_ (ι := { q : List Int × List Int // q.1 ++ q.2 = L ∧ orL q.2 = orL L }) (fun q => orI L q.1.1 q.1.2) (fun q => q.1.2.length) ⟨([], L), rfl, rfl⟩ ?_ ?_
 · refine wO_ [] (by simp [go_sem]) ?_ ?_ <;> simp [go_sem]
 intro ⟨⟨pre, post⟩, hl, hgo⟩
 simp only at hl hgo
 have hpl := lS_ hl hL
 simp only [orI]
 refine aQ_ ?_
 iterate 1
  refine oC_ fun J hJ => ?_
  simp [go_sem]
  refine hJ _ _ _ ?_
  clear hJ J
 refine oN_ ?_
 refine aS_ fun K6 hK6 => ?_
 refine aC_ (t := _) rfl (fun c7 => ?_) (fun c7 => ?_)
 ·
  simp [go_sem] at c7
  obtain ⟨x, post, rfl, hx⟩ := mL_ hl c7
  refine aK_ ?_
  refine hK6 _ ?_
  clear hK6
  refine aS_ fun K8 hK8 => ?_
  refine aB_ ?_
  refine aQ_ ?_
  iterate 3
   refine oC_ fun J hJ => ?_
   simp [go_sem, hx]
   refine hJ _ _ _ ?_
   clear hJ J
  refine oN_ ?_
  refine aQ_ ?_
  iterate 3
   refine oC_ fun J hJ => ?_
   simp [go_sem]
   refine hJ _ _ _ ?_
   clear hJ J
  refine oN_ ?_
  refine aC_ (t := _) rfl (fun c11 => ?_) (fun c11 => ?_)
  ·
   simp [go_sem] at c11
   refine aQ_ ?_
   iterate 2
    refine oC_ fun J hJ => ?_
    simp [go_sem]
    refine hJ _ _ _ ?_
    clear hJ J
   refine oN_ ?_
   refine aE_ ?_
   refine fQ_ [] ?_
   simp [go_sem, Try.f77, ← hgo, orL, c11]
  ·
   simp [go_sem] at c11
   refine aK_ ?_
   refine hK8 _ ?_
   clear hK8
   refine aR_ ?_
   iterate 2
    refine oC_ fun J hJ => ?_
    simp [go_sem]
    refine hJ _ _ _ ?_
    clear hJ J
   refine oN_ ?_
   refine ⟨⟨(pre ++ [x], post), by simp [← hl], by rw [← hgo]; simp [orL, c11]⟩, ?_, by simp⟩
   refine wO_ [] (by simp [go_sem]) ?_ ?_ <;> simp [go_sem, wN_ hpl]
 ·
  simp [go_sem] at c7
  obtain ⟨rfl, rfl⟩ := mN_ hl c7
  refine aX_ ?_
  simp only [go_sem]
  refine hK3 _ ?_
  clear hK3
  refine aQ_ ?_
  iterate 2
   refine oC_ fun J hJ => ?_
   simp [go_sem]
   refine hJ _ _ _ ?_
   clear hJ J
  refine oN_ ?_
  refine aE_ ?_
  refine fQ_ [] ?_
  simp [go_sem, Try.f77, ← hgo, orL]
end Go.Proofs.Ytebflegkdfhoaaa.AE
namespace Go.Proofs.Ytebflegkdfhoaaa.AE
open Go Go.Proofs Go.RowKit
set_option linter.unusedVariables false
set_option linter.unusedSimpArgs false
set_option maxRecDepth 100000
set_option maxHeartbeats 4000000
structure eqOrdX where
 L : List Ord
 L' : AV
 M : List Ord
 M' : AV
 h_L : SlA 7 cOrd L L'
 h_M : SlA 7 cOrd M M'
 hL : L.length ≤ 100000
noncomputable def eqOrdS : HSpec := mkH (ι := eqOrdX) (fun ⟨L, L', M, M', h_L, h_M, hL⟩ => ([L', M'], [])) fun ⟨L, L', M, M', h_L, h_M, hL⟩ => ⟨.bool (decide (L = M)), [], []⟩
theorem eqOrdS_atG (L : List Ord) (L' : AV) (M : List Ord) (M' : AV) (h_L : SlA 7 cOrd L L') (h_M : SlA 7 cOrd M M') (hL : L.length ≤ 100000) : eqOrdS [L', M'] [] = some (⟨.bool (decide (L = M)), [], []⟩) :=
 mA_ (ι := eqOrdX) (fun i j h => by obtain ⟨L, L', M, M', h_L, h_M, hL⟩ := i; obtain ⟨L2, L'2, M2, M'2, h_L2, h_M2, hL2⟩ := j; simp [and_assoc, qB_, qI_, qO_, qC_, qE_, qK_, qR_, qV_, qP_, qOc_] at h; obtain ⟨rfl, rfl⟩ := h; obtain rfl := SlA.inj (fun x y h => cOrd_inj h) h_L h_L2; obtain rfl := SlA.inj (fun x y h => cOrd_inj h) h_M h_M2; rfl) ⟨L, L', M, M', h_L, h_M, hL⟩
theorem eqOrdS_at (L : List Ord) (M : List Ord) (hL : L.length ≤ 100000) : eqOrdS [(.sl 7 (rows cOrd L)), (.sl 7 (rows cOrd M))] [] = some (⟨.bool (decide (L = M)), [], []⟩) := eqOrdS_atG L _ M _ .sl .sl hL
def eqOrdI (L M pre _post _q : List Ord) : St := ⟨ofL [(0, .sl 7 (rows cOrd L)), (1, .sl 7 (rows cOrd M)), (12, .int .i64 L.length), (13, .int .i64 pre.length)], hOf []⟩
theorem eqOrd_ok : HSound Try.prog 63 eqOrdS := by
 refine sE_ (fn := Try.f63) rfl rfl (by kernel_rfl) fun args bx hr hS => ?_
 obtain ⟨⟨L, L', M, M', h_L, h_M, hL⟩, rfl, rfl, rfl⟩ := mO_ hS
 clear hS
 refine ⟨_, (eN_ _), by simp [Try.f63], by simp [go_sem], fun w Mx pin => ?_⟩
 simp only [hB_at, lab_nil, lab_cons, hOf_nil, hOf_cons]
 refine aW_ (s' := ⟨ofL [(0, (.sl 7 (rows cOrd L))), (1, (.sl 7 (rows cOrd M)))], hOf []⟩) ?_ ?_
 · cases h_L <;> cases h_M <;> exact wO_ [] (by simp [go_sem]) (by simp [go_sem]) (by simp [go_sem])
 clear h_L h_M
 refine aQ_ ?_
 iterate 1
  refine oC_ fun J hJ => ?_
  simp [go_sem]
  refine hJ _ _ _ ?_
  clear hJ J
 refine oN_ ?_
 refine aS_ fun K2 hK2 => ?_
 refine aQ_ ?_
 iterate 5
  refine oC_ fun J hJ => ?_
  simp [go_sem]
  refine hJ _ _ _ ?_
  clear hJ J
 refine oN_ ?_
 refine aC_ (t := _) rfl (fun c4 => ?_) (fun c4 => ?_)
 ·
  simp [go_sem] at c4
  have hne : L ≠ M := fun h => c4 (by rw [h])
  refine aQ_ ?_
  iterate 1
   refine oC_ fun J hJ => ?_
   simp [go_sem]
   refine hJ _ _ _ ?_
   clear hJ J
  refine oN_ ?_
  refine aE_ ?_
  refine fQ_ [] ?_
  simp [go_sem, Try.f63, hne]
 ·
  simp [go_sem] at c4
  refine aK_ ?_
  refine hK2 _ ?_
  clear hK2
  refine aS_ fun K6 hK6 => ?_
  refine aQ_ ?_
  iterate 3
   refine oC_ fun J hJ => ?_
   simp [go_sem]
   refine hJ _ _ _ ?_
   clear hJ J
  refine oN_ ?_
  refine aB_ ?_
  refine aL_ (ι := { q : List Ord × List Ord × List Ord // q.1 ++ q.2.1 = L ∧ q.1 ++ q.2.2 = M }) (fun q => eqOrdI L M q.1.1 q.1.2.1 q.1.2.2) (fun q => q.1.2.1.length) ⟨([], L, M), rfl, rfl⟩ ?_ ?_
  · refine wO_ [] (by simp [go_sem]) ?_ ?_ <;> simp [go_sem]
  intro ⟨⟨pre, post, p2⟩, hl, hgo⟩
  simp only at hl hgo
  have hpl := lS_ hl hL
  simp only [eqOrdI]
  refine aQ_ ?_
  iterate 1
   refine oC_ fun J hJ => ?_
   simp [go_sem]
   refine hJ _ _ _ ?_
   clear hJ J
  refine oN_ ?_
  refine aS_ fun K9 hK9 => ?_
  refine aC_ (t := _) rfl (fun c10 => ?_) (fun c10 => ?_)
  ·
   simp [go_sem] at c10
   obtain ⟨x, post, rfl, hx⟩ := mL_ hl c10
   obtain ⟨y, p2, rfl, hy⟩ := mL_ hgo (by omega)
   refine aK_ ?_
   refine hK9 _ ?_
   clear hK9
   refine aS_ fun K11 hK11 => ?_
   refine aB_ ?_
   refine aQ_ ?_
   iterate 2
    refine oC_ fun J hJ => ?_
    simp [go_sem]
    refine hJ _ _ _ ?_
    clear hJ J
   refine oN_ ?_
   refine aU_ ?_
   iterate 9
    refine oC_ fun J hJ => ?_
    simp [go_sem, hx, hy]
    refine hJ _ _ _ ?_
    clear hJ J
   refine oN_ ?_
   refine ⟨rfl, ?_⟩
   refine aC_ (t := _) rfl (fun c14 => ?_) (fun c14 => ?_)
   ·
    refine aQ_ ?_
    iterate 1
     refine oC_ fun J hJ => ?_
     simp [go_sem]
     refine hJ _ _ _ ?_
     clear hJ J
    refine oN_ ?_
    refine aE_ ?_
    have hne : L ≠ M := by
     rintro rfl
     rw [hx] at hy
     cases hy
     simp at c14
    refine fQ_ [] ?_
    simp [go_sem, Try.f63, hne]
   ·
    refine aK_ ?_
    refine hK11 _ ?_
    clear hK11
    refine aR_ ?_
    iterate 2
     refine oC_ fun J hJ => ?_
     simp [go_sem]
     refine hJ _ _ _ ?_
     clear hJ J
    refine oN_ ?_
    obtain rfl : x = y := by simpa using c14
    refine ⟨⟨(pre ++ [x], post, p2), by simp [← hl], by rw [← hgo]; simp⟩, ?_, by simp⟩
    refine wO_ [] (by simp [go_sem]) ?_ ?_ <;> simp [go_sem, wN_ hpl]
  ·
   simp [go_sem] at c10
   obtain ⟨rfl, rfl⟩ := mN_ hl c10
   obtain rfl : p2 = [] := by have := congrArg List.length hgo; simp at this; exact List.eq_nil_of_length_eq_zero (by omega)
   simp at hgo
   refine aX_ ?_
   simp only [go_sem]
   refine hK6 _ ?_
   clear hK6
   refine aQ_ ?_
   iterate 1
    refine oC_ fun J hJ => ?_
    simp [go_sem]
    refine hJ _ _ _ ?_
    clear hJ J
   refine oN_ ?_
   refine aE_ ?_
   refine fQ_ [] ?_
   simp [go_sem, Try.f63, hgo]
structure plChgX where
 L : List Chg
 L' : AV
 M : List Chg
 M' : AV
 h_L : SlA 9 cChg L L'
 h_M : SlA 9 cChg M M'
 hL : L.length ≤ 100000
noncomputable def plChgS : HSpec := mkH (ι := plChgX) (fun ⟨L, L', M, M', h_L, h_M, hL⟩ => ([L', M'], [])) fun ⟨L, L', M, M', h_L, h_M, hL⟩ => ⟨.bool (decide (L = M)), [], []⟩
theorem plChgS_atG (L : List Chg) (L' : AV) (M : List Chg) (M' : AV) (h_L : SlA 9 cChg L L') (h_M : SlA 9 cChg M M') (hL : L.length ≤ 100000) : plChgS [L', M'] [] = some (⟨.bool (decide (L = M)), [], []⟩) :=
 mA_ (ι := plChgX) (fun i j h => by obtain ⟨L, L', M, M', h_L, h_M, hL⟩ := i; obtain ⟨L2, L'2, M2, M'2, h_L2, h_M2, hL2⟩ := j; simp [and_assoc, qB_, qI_, qO_, qC_, qE_, qK_, qR_, qV_, qP_, qOc_] at h; obtain ⟨rfl, rfl⟩ := h; obtain rfl := SlA.inj (fun x y h => cChg_inj h) h_L h_L2; obtain rfl := SlA.inj (fun x y h => cChg_inj h) h_M h_M2; rfl) ⟨L, L', M, M', h_L, h_M, hL⟩
theorem plChgS_at (L : List Chg) (M : List Chg) (hL : L.length ≤ 100000) : plChgS [(.sl 9 (rows cChg L)), (.sl 9 (rows cChg M))] [] = some (⟨.bool (decide (L = M)), [], []⟩) := plChgS_atG L _ M _ .sl .sl hL
def plChgI (L M pre _post _q : List Chg) : St := ⟨ofL [(0, .sl 9 (rows cChg L)), (1, .sl 9 (rows cChg M)), (5, .int .i64 pre.length)], hOf []⟩
theorem plChg_ok : HSound Try.prog 21 plChgS := by
 refine sE_ (fn := Try.f21) rfl rfl (by kernel_rfl) fun args bx hr hS => ?_
 obtain ⟨⟨L, L', M, M', h_L, h_M, hL⟩, rfl, rfl, rfl⟩ := mO_ hS
 clear hS
 refine ⟨_, (eN_ _), by simp [Try.f21], by simp [go_sem], fun w Mx pin => ?_⟩
 simp only [hB_at, lab_nil, lab_cons, hOf_nil, hOf_cons]
 refine aW_ (s' := ⟨ofL [(0, (.sl 9 (rows cChg L))), (1, (.sl 9 (rows cChg M)))], hOf []⟩) ?_ ?_
 · cases h_L <;> cases h_M <;> exact wO_ [] (by simp [go_sem]) (by simp [go_sem]) (by simp [go_sem])
 clear h_L h_M
 refine aQ_ ?_
 iterate 1
  refine oC_ fun J hJ => ?_
  simp [go_sem]
  refine hJ _ _ _ ?_
  clear hJ J
 refine oN_ ?_
 refine aS_ fun K2 hK2 => ?_
 refine aQ_ ?_
 iterate 5
  refine oC_ fun J hJ => ?_
  simp [go_sem]
  refine hJ _ _ _ ?_
  clear hJ J
 refine oN_ ?_
 refine aC_ (t := _) rfl (fun c4 => ?_) (fun c4 => ?_)
 ·
  simp [go_sem] at c4
  have hne : L ≠ M := fun h => c4 (by rw [h])
  refine aQ_ ?_
  iterate 1
   refine oC_ fun J hJ => ?_
   simp [go_sem]
   refine hJ _ _ _ ?_
   clear hJ J
  refine oN_ ?_
  refine aE_ ?_
  refine fQ_ [] ?_
  simp [go_sem, Try.f21, hne]
 ·
  simp [go_sem] at c4
  refine aK_ ?_
  refine hK2 _ ?_
  clear hK2
  refine aS_ fun K6 hK6 => ?_
  refine aQ_ ?_
  iterate 1
   refine oC_ fun J hJ => ?_
   simp [go_sem]
   refine hJ _ _ _ ?_
   clear hJ J
  refine oN_ ?_
  refine aB_ ?_
  refine aL_ (ι := { q : List Chg × List Chg × List Chg // q.1 ++ q.2.1 = L ∧ q.1 ++ q.2.2 = M }) (fun q => plChgI L M q.1.1 q.1.2.1 q.1.2.2) (fun q => q.1.2.1.length) ⟨([], L, M), rfl, rfl⟩ ?_ ?_
  · refine wO_ [] (by simp [go_sem]) ?_ ?_ <;> simp [go_sem]
  intro ⟨⟨pre, post, p2⟩, hl, hgo⟩
  simp only at hl hgo
  have hpl := lS_ hl hL
  simp only [plChgI]
  refine aS_ fun K8 hK8 => ?_
  refine aQ_ ?_
  iterate 4
   refine oC_ fun J hJ => ?_
   simp [go_sem]
   refine hJ _ _ _ ?_
   clear hJ J
  refine oN_ ?_
  refine aC_ (t := _) rfl (fun c10 => ?_) (fun c10 => ?_)
  ·
   simp [go_sem] at c10
   obtain ⟨x, post, rfl, hx⟩ := mL_ hl c10
   obtain ⟨y, p2, rfl, hy⟩ := mL_ hgo (by omega)
   refine aK_ ?_
   refine hK8 _ ?_
   clear hK8
   refine aS_ fun K11 hK11 => ?_
   refine aB_ ?_
   refine aU_ ?_
   iterate 9
    refine oC_ fun J hJ => ?_
    simp [go_sem, hx, hy]
    refine hJ _ _ _ ?_
    clear hJ J
   refine oN_ ?_
   refine ⟨rfl, ?_⟩
   refine aC_ (t := _) rfl (fun c13 => ?_) (fun c13 => ?_)
   ·
    refine aQ_ ?_
    iterate 1
     refine oC_ fun J hJ => ?_
     simp [go_sem]
     refine hJ _ _ _ ?_
     clear hJ J
    refine oN_ ?_
    refine aE_ ?_
    have hne : L ≠ M := by
     rintro rfl
     rw [hx] at hy
     cases hy
     simp at c13
    refine fQ_ [] ?_
    simp [go_sem, Try.f21, hne]
   ·
    refine aK_ ?_
    refine hK11 _ ?_
    clear hK11
    refine aR_ ?_
    iterate 3
     refine oC_ fun J hJ => ?_
     simp [go_sem]
     refine hJ _ _ _ ?_
     clear hJ J
    refine oN_ ?_
    obtain rfl : x = y := by simpa using c13
    refine ⟨⟨(pre ++ [x], post, p2), by simp [← hl], by rw [← hgo]; simp⟩, ?_, by simp⟩
    refine wO_ [] (by simp [go_sem]) ?_ ?_ <;> simp [go_sem, wN_ hpl]
  ·
   simp [go_sem] at c10
   obtain ⟨rfl, rfl⟩ := mN_ hl c10
   obtain rfl : p2 = [] := by have := congrArg List.length hgo; simp at this; exact List.eq_nil_of_length_eq_zero (by omega)
   simp at hgo
   refine aX_ ?_
   simp only [go_sem]
   refine hK6 _ ?_
   clear hK6
   refine aQ_ ?_
   iterate 1
    refine oC_ fun J hJ => ?_
    simp [go_sem]
    refine hJ _ _ _ ?_
    clear hJ J
   refine oN_ ?_
   refine aE_ ?_
   refine fQ_ [] ?_
   simp [go_sem, Try.f21, hgo]
end Go.Proofs.Ytebflegkdfhoaaa.AE
