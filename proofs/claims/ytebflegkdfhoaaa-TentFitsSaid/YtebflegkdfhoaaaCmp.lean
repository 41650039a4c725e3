/-
  Package cmp: contracts. Conditions: none; every contract names its own.
-/
import Derived.Test.YtebflegkdfhoaaaTyp
import Derived.Test.YtebflegkdfhoaaaTy
namespace Go.Proofs.Ytebflegkdfhoaaa.AE
open Go Go.Proofs Go.RowKit
set_option linter.unusedVariables false
set_option linter.unusedSimpArgs false
set_option maxRecDepth 100000
set_option maxHeartbeats 4000000
theorem mid_get {α : Type} (pre : List α) (x : α) (post : List α) : (pre ++ x :: post)[pre.length]? = some x := by simp
theorem mid_lt {α : Type} {pre post L : List α} (h : pre ++ post = L) (hl : pre.length < L.length) : ∃ x r, post = x :: r ∧ L[pre.length]? = some x := by
  cases post with
  | nil => simp at h; subst h; omega
  | cons x r => exact ⟨x, r, rfl, by rw [← h]; simp⟩
theorem mid_nil {α : Type} {pre post L : List α} (h : pre ++ post = L) (hl : L.length ≤ pre.length) : post = [] ∧ L = pre := by
  cases post with
  | nil => simp at h; exact ⟨rfl, h.symm⟩
  | cons x r => subst h; simp at hl; omega
theorem len_small {α : Type} {pre post L : List α} (h : pre ++ post = L) (hL : L.length ≤ 100000) : pre.length ≤ 100000 := by subst h; simp at hL; omega
theorem wrap_nat {n : Nat} (h : n ≤ 100000) : IntKind.i64.wrap ((n : Int) + 1) = (n : Int) + 1 := wrap_ok (by omega) (by omega)
theorem wrap_at {n : Int} (h : -4611686018427387904 ≤ n ∧ n ≤ 4611686018427387904) : IntKind.i64.wrap n = n := wrap_ok (by omega) (by omega)
@[go_sem] theorem aVal_zeros (T : TypeId → Option TI) (env : Env) (dst : Option Tmp) (ρ : Operand → AV) (H : Heap) (a x : Operand) (t t' : TypeId) (h : t' ≠ t) : aVal T env dst (.call ⟨.builtin .append, #[a, x], #[t, t']⟩) ρ H = vZeros (nid dst) (ρ a) (ρ x) (T t) ((T t).bind fun i => T i.etype) (T t') := by
  show (if t' = t then _ else _) = _
  rw [if_neg h]
@[go_sem] theorem aVal_cap (T : TypeId → Option TI) (env : Env) (dst : Option Tmp) (ρ : Operand → AV) (H : Heap) (x : Operand) (t : TypeId) : aVal T env dst (.call ⟨.builtin .cap, #[x], #[t]⟩) ρ H = vCap (ρ x) (T t) := rfl
def optC (H0 H : Heap) (ρ : Ren) (rs : List AV) : Option (List AV) → Prop
  | some vs => le.leC H0 H ρ rs vs
  | none => False
@[go_sem] theorem optC_some (H0 H ρ rs vs) : optC H0 H ρ rs (some vs) = le.leC H0 H ρ rs vs := rfl
@[go_sem] theorem resH_many (T : TypeId → Option TI) (s : St) (H : Heap) (ρ : Ren) (rs x y l) : resH T s H ρ (.tup rs) (x :: y :: l) = optC s.H H ρ rs (catV ((x :: y :: l).map (resV T s))) := by
  simp only [resH, optC]
  cases catV ((x :: y :: l).map (resV T s)) <;> rfl
@[go_sem] theorem catV_nil' : catV [] = some [] := rfl
@[go_sem] theorem catV_some' (v : AV) (l) : catV (some v :: l) = (catV l).map (v :: ·) := rfl
@[go_sem] theorem resV_tmp' (T : TypeId → Option TI) (s : St) (t) : resV T s (.tmp t) = some (s.t t) := rfl
@[go_sem] theorem resV_cell' (T : TypeId → Option TI) (s : St) (a t) : resV T s (.cell a t) = cellV T s t (s.t a) := resV_cell T s a t
theorem sound_ofE {P : Program} {f : FuncId} {fn : Func} {c : Code} {S : HSpec} (hf : P.funcs[f]? = some fn) (hb : fn.body = some c) (hok : codeOK P fn.ntmps c = true)
    (h : ∀ args bx hr, S args bx = some hr → ∃ env, EnvOK P env ∧ args.length ≤ fn.ntmps ∧ goOns bx hr.up ∧ ∀ (w : World) (Mx : Nat → Prop) (pin : Nat → Option (Nat × Nat)), awp ⟨P, w, Mx, fn.ntmps, pin, []⟩ env c (finWQ (TI.of P) fn.results.toList hr) ⟨argsF args, hB bx⟩) : HSound P f S := by
  classical
  intro args bx hr hS
  obtain ⟨env, he, h1, h2, h3⟩ := h args bx hr hS
  exact sound_ofH (S := fun a b => if a = args ∧ b = bx then some hr else none) hf hb hok he (fun a b r hr' => by
    split at hr'
    · rename_i hab; obtain ⟨rfl, rfl⟩ := hab; cases hr'; exact ⟨h1, h2, h3⟩
    · cases hr') args bx hr (if_pos ⟨rfl, rfl⟩)
theorem wrap_big {α : Type} {L : List α} {n : Nat} {x : α} (hx : L[n]? = some x) (hL : L.length ≤ 9223372036854775807) : IntKind.i64.wrap ((n : Int) + 1) = (n : Int) + 1 := by
  have := (List.getElem?_eq_some_iff.1 hx).1
  exact wrap_ok (by omega) (by omega)
/-- Where a list has something first. -/
def idxL {α : Type} (p : α → Bool) : List α → Nat → Int
  | [], _ => -1
  | x :: r, i => if p x = true then i else idxL p r (i + 1)
@[go_sem] theorem rows_flat {α : Type} (c : α → List AV) (x : α) (L : List α) : (rows c (x :: L)).flatten = c x ++ (rows c L).flatten := by simp [rows]
@[go_sem] theorem rows_cons_int (n : Int) (L : List Int) : [.int .i64 n] :: rows cInt L = rows cInt (n :: L) := rfl
/-- Of two numbers: less, alike or more. -/
def cmpI (a b : Int) : Int := if a < b then -1 else if a > b then 1 else 0
/-- The first that is not 0. -/
def orL : List Int → Int
  | [] => 0
  | x :: r => if x = 0 then orL r else x

/-- A slice's value: its list, or nil. -/
inductive SlA {α : Type} (k : Nat) (c : α → List AV) : List α → AV → Prop
  | sl {L : List α} : SlA k c L (.sl k (rows c L))
  | nil : SlA k c [] .nils
theorem SlA.inj {α : Type} {k : Nat} {c : α → List AV} (hc : ∀ x y, c x = c y → x = y) {L M : List α} {v : AV} (h : SlA k c L v) (h' : SlA k c M v) : L = M := by
  cases h with
  | sl =>
    generalize hv : AV.sl k (rows c L) = v at h'
    cases h' with
    | sl => simp only [AV.sl.injEq, true_and] at hv; exact rows_inj hc hv
    | nil => cases hv
  | nil => cases h'; rfl

structure nanX where
  a : Int
/-- cmp.isNaN -/
noncomputable def nanS : HSpec := mkH (ι := nanX) (fun ⟨a⟩ => ([.int .i64 a], [])) fun ⟨a⟩ => ⟨.bool false, [], []⟩
theorem nanS_atG (a : Int) : nanS [.int .i64 a] [] = some (⟨.bool false, [], []⟩) :=
  mkH_at (ι := nanX) (A := fun ⟨a⟩ => ([.int .i64 a], [])) (R := fun ⟨a⟩ => ⟨.bool false, [], []⟩) (fun i j h => by obtain ⟨a⟩ := i; obtain ⟨a2⟩ := j; simp [and_assoc, cBk_eq_iff, cId_eq_iff, cOrd_eq_iff, cChg_eq_iff, cEff_eq_iff, cKey_eq_iff, cReq_eq_iff, cV_eq_iff, cOp_eq_iff, cOc_eq_iff] at h; obtain rfl := h; rfl) ⟨a⟩
theorem nanS_at (a : Int) : nanS [.int .i64 a] [] = some (⟨.bool false, [], []⟩) := nanS_atG a

theorem nan_ok : HSound Try.prog 82 nanS := by
  refine sound_ofE (fn := Try.f82) rfl rfl (by kernel_rfl) fun args bx hr hS => ?_
  obtain ⟨⟨a⟩, rfl, rfl, rfl⟩ := mkH_of hS
  clear hS
  refine ⟨_, (EnvOK.nil _), by simp [Try.f82], by simp [go_sem], fun w Mx pin => ?_⟩
  simp only [hB_at, lab_nil, lab_cons, hOf_nil, hOf_cons]
  refine awp_seq fun K1 hK1 => ?_
  refine awp_region ?_
  iterate 1
    refine opsK_cons fun J hJ => ?_
    simp [go_sem]
    refine hJ _ _ _ ?_
    clear hJ J
  refine opsK_nil ?_
  refine hK1 _ ?_
  clear hK1
  refine awp_seq fun K2 hK2 => ?_
  refine awp_region ?_
  iterate 4
    refine opsK_cons fun J hJ => ?_
    simp [go_sem]
    refine hJ _ _ _ ?_
    clear hJ J
  refine opsK_nil ?_
  refine hK2 _ ?_
  clear hK2
  refine awp_ret ?_
  refine finWQ_of [] ?_
  simp [go_sem, Try.f82]

structure cmpX where
  a : Int
  b : Int
/-- cmp.Compare -/
noncomputable def cmpS : HSpec := mkH (ι := cmpX) (fun ⟨a, b⟩ => ([.int .i64 a, .int .i64 b], [])) fun ⟨a, b⟩ => ⟨.int .i64 (cmpI a b), [], []⟩
theorem cmpS_atG (a : Int) (b : Int) : cmpS [.int .i64 a, .int .i64 b] [] = some (⟨.int .i64 (cmpI a b), [], []⟩) :=
  mkH_at (ι := cmpX) (A := fun ⟨a, b⟩ => ([.int .i64 a, .int .i64 b], [])) (R := fun ⟨a, b⟩ => ⟨.int .i64 (cmpI a b), [], []⟩) (fun i j h => by obtain ⟨a, b⟩ := i; obtain ⟨a2, b2⟩ := j; simp [and_assoc, cBk_eq_iff, cId_eq_iff, cOrd_eq_iff, cChg_eq_iff, cEff_eq_iff, cKey_eq_iff, cReq_eq_iff, cV_eq_iff, cOp_eq_iff, cOc_eq_iff] at h; obtain ⟨rfl, rfl⟩ := h; rfl) ⟨a, b⟩
theorem cmpS_at (a : Int) (b : Int) : cmpS [.int .i64 a, .int .i64 b] [] = some (⟨.int .i64 (cmpI a b), [], []⟩) := cmpS_atG a b

theorem cmp_ok : HSound Try.prog 78 cmpS := by
  refine sound_ofE (fn := Try.f78) rfl rfl (by kernel_rfl) fun args bx hr hS => ?_
  obtain ⟨⟨a, b⟩, rfl, rfl, rfl⟩ := mkH_of hS
  clear hS
  refine ⟨_, (EnvOK.consV (g := 82) (by kernel_rfl) nan_ok (EnvOK.nil _)), by simp [Try.f78], by simp [go_sem], fun w Mx pin => ?_⟩
  simp only [hB_at, lab_nil, lab_cons, hOf_nil, hOf_cons]
  refine awp_seq fun K1 hK1 => ?_
  refine awp_region ?_
  iterate 1
    refine opsK_cons fun J hJ => ?_
    simp [go_sem]
    refine hJ _ _ _ ?_
    clear hJ J
  refine opsK_nil ?_
  refine hK1 _ ?_
  clear hK1
  refine awp_seq fun K2 hK2 => ?_
  refine awp_region ?_
  iterate 3
    refine opsK_cons fun J hJ => ?_
    simp [go_sem, nanS_at]
    refine hJ _ _ _ ?_
    clear hJ J
  refine opsK_nil ?_
  refine hK2 _ ?_
  clear hK2
  refine awp_seq fun K3 hK3 => ?_
  refine awp_region ?_
  iterate 3
    refine opsK_cons fun J hJ => ?_
    simp [go_sem, nanS_at]
    refine hJ _ _ _ ?_
    clear hJ J
  refine opsK_nil ?_
  refine hK3 _ ?_
  clear hK3
  refine awp_seq fun K4 hK4 => ?_
  refine awp_seq fun K5 hK5 => ?_
  refine awp_region ?_
  iterate 1
    refine opsK_cons fun J hJ => ?_
    simp [go_sem]
    refine hJ _ _ _ ?_
    clear hJ J
  refine opsK_nil ?_
  refine hK5 _ ?_
  clear hK5
  refine awp_condF rfl ?_
  refine awp_skip ?_
  refine hK4 _ ?_
  clear hK4
  refine awp_seq fun K12 hK12 => ?_
  refine awp_seq fun K13 hK13 => ?_
  refine awp_region ?_
  iterate 1
    refine opsK_cons fun J hJ => ?_
    simp [go_sem]
    refine hJ _ _ _ ?_
    clear hJ J
  refine opsK_nil ?_
  refine hK13 _ ?_
  clear hK13
  refine awp_condF rfl ?_
  refine awp_skip ?_
  refine hK12 _ ?_
  clear hK12
  refine awp_seq fun K16 hK16 => ?_
  refine awp_seq fun K17 hK17 => ?_
  refine awp_region ?_
  iterate 3
    refine opsK_cons fun J hJ => ?_
    simp [go_sem]
    refine hJ _ _ _ ?_
    clear hJ J
  refine opsK_nil ?_
  refine hK17 _ ?_
  clear hK17
  refine awp_cond (t := _) rfl (fun c18 => ?_) (fun c18 => ?_)
  · simp [go_sem] at c18
    refine awp_seq fun K19 hK19 => ?_
    refine awp_region ?_
    iterate 1
      refine opsK_cons fun J hJ => ?_
      simp [go_sem]
      refine hJ _ _ _ ?_
      clear hJ J
    refine opsK_nil ?_
    refine hK19 _ ?_
    clear hK19
    refine awp_ret ?_
    refine finWQ_of [] ?_
    simp [go_sem, Try.f78, cmpI, c18]
  · simp [go_sem] at c18
    refine awp_skip ?_
    refine hK16 _ ?_
    clear hK16
    refine awp_seq fun K20 hK20 => ?_
    refine awp_seq fun K21 hK21 => ?_
    refine awp_region ?_
    iterate 3
      refine opsK_cons fun J hJ => ?_
      simp [go_sem]
      refine hJ _ _ _ ?_
      clear hJ J
    refine opsK_nil ?_
    refine hK21 _ ?_
    clear hK21
    refine awp_cond (t := _) rfl (fun c22 => ?_) (fun c22 => ?_)
    · simp [go_sem] at c22
      refine awp_seq fun K23 hK23 => ?_
      refine awp_region ?_
      iterate 1
        refine opsK_cons fun J hJ => ?_
        simp [go_sem]
        refine hJ _ _ _ ?_
        clear hJ J
      refine opsK_nil ?_
      refine hK23 _ ?_
      clear hK23
      refine awp_ret ?_
      refine finWQ_of [] ?_
      simp [go_sem, Try.f78, cmpI, c22, show ¬ a < b by omega]
    · simp [go_sem] at c22
      refine awp_skip ?_
      refine hK20 _ ?_
      clear hK20
      refine awp_seq fun K24 hK24 => ?_
      refine awp_region ?_
      iterate 1
        refine opsK_cons fun J hJ => ?_
        simp [go_sem]
        refine hJ _ _ _ ?_
        clear hJ J
      refine opsK_nil ?_
      refine hK24 _ ?_
      clear hK24
      refine awp_ret ?_
      refine finWQ_of [] ?_
      simp [go_sem, Try.f78, cmpI, show ¬ a < b by omega, show ¬ b < a by omega]

structure orX where
  L : List Int
  L' : AV
  h_L : SlA 1 cInt L L'
  hL : L.length ≤ 100000
/-- cmp.Or -/
noncomputable def orS : HSpec := mkH (ι := orX) (fun ⟨L, L', h_L, hL⟩ => ([L'], [])) fun ⟨L, L', h_L, hL⟩ => ⟨.int .i64 (orL L), [], []⟩
theorem orS_atG (L : List Int) (L' : AV) (h_L : SlA 1 cInt L L') (hL : L.length ≤ 100000) : orS [L'] [] = some (⟨.int .i64 (orL L), [], []⟩) :=
  mkH_at (ι := orX) (A := fun ⟨L, L', h_L, hL⟩ => ([L'], [])) (R := fun ⟨L, L', h_L, hL⟩ => ⟨.int .i64 (orL L), [], []⟩) (fun i j h => by obtain ⟨L, L', h_L, hL⟩ := i; obtain ⟨L2, L'2, h_L2, hL2⟩ := j; simp [and_assoc, cBk_eq_iff, cId_eq_iff, cOrd_eq_iff, cChg_eq_iff, cEff_eq_iff, cKey_eq_iff, cReq_eq_iff, cV_eq_iff, cOp_eq_iff, cOc_eq_iff] at h; obtain rfl := h; obtain rfl := SlA.inj (fun x y h => cInt_inj h) h_L h_L2; rfl) ⟨L, L', h_L, hL⟩
theorem orS_at (L : List Int) (hL : L.length ≤ 100000) : orS [(.sl 1 (rows cInt L))] [] = some (⟨.int .i64 (orL L), [], []⟩) := orS_atG L _ .sl hL
theorem orS_atN : orS [.nils] [] = some ((fun (L : List Int) => ⟨.int .i64 (orL L), [], []⟩) []) := orS_atG [] _ .nil (by simp)

def orI (L : List Int) (pre _post : List Int) : St := ⟨ofL [(3, .int .i64 0), (6, .sl 1 (rows cInt L)), (7, .int .i64 L.length), (8, .int .i64 pre.length)], hOf []⟩

theorem or_ok : HSound Try.prog 77 orS := by
  refine sound_ofE (fn := Try.f77) rfl rfl (by kernel_rfl) fun args bx hr hS => ?_
  obtain ⟨⟨L, L', h_L, hL⟩, rfl, rfl, rfl⟩ := mkH_of hS
  clear hS
  refine ⟨_, (EnvOK.nil _), by simp [Try.f77], by simp [go_sem], fun w Mx pin => ?_⟩
  simp only [hB_at, lab_nil, lab_cons, hOf_nil, hOf_cons]
  refine awp_weak (s' := ⟨ofL [(0, (.sl 1 (rows cInt L)))], hOf []⟩) ?_ ?_
  · cases h_L <;> exact weak_of [] (by simp [go_sem]) (by simp [go_sem]) (by simp [go_sem])
  clear h_L
  refine awp_seq fun K1 hK1 => ?_
  refine awp_region ?_
  iterate 1
    refine opsK_cons fun J hJ => ?_
    simp [go_sem]
    refine hJ _ _ _ ?_
    clear hJ J
  refine opsK_nil ?_
  refine hK1 _ ?_
  clear hK1
  refine awp_seq fun K2 hK2 => ?_
  refine awp_region ?_
  iterate 1
    refine opsK_cons fun J hJ => ?_
    simp [go_sem]
    refine hJ _ _ _ ?_
    clear hJ J
  refine opsK_nil ?_
  refine hK2 _ ?_
  clear hK2
  refine awp_seq fun K3 hK3 => ?_
  refine awp_seq fun K4 hK4 => ?_
  refine awp_region ?_
  iterate 3
    refine opsK_cons fun J hJ => ?_
    simp [go_sem]
    refine hJ _ _ _ ?_
    clear hJ J
  refine opsK_nil ?_
  refine hK4 _ ?_
  clear hK4
  refine awp_block ?_
  refine awp_loop (ι := { q : List Int × List Int // q.1 ++ q.2 = L ∧ orL q.2 = orL L }) (fun q => orI L q.1.1 q.1.2) (fun q => q.1.2.length) ⟨([], L), rfl, rfl⟩ ?_ ?_
  · refine weak_of [] (by simp [go_sem]) ?_ ?_ <;> simp [go_sem]
  intro ⟨⟨pre, post⟩, hl, hgo⟩
  simp only at hl hgo
  have hpl := len_small hl hL
  simp only [orI]
  refine awp_seq fun K5 hK5 => ?_
  refine awp_region ?_
  iterate 1
    refine opsK_cons fun J hJ => ?_
    simp [go_sem]
    refine hJ _ _ _ ?_
    clear hJ J
  refine opsK_nil ?_
  refine hK5 _ ?_
  clear hK5
  refine awp_seq fun K6 hK6 => ?_
  refine awp_cond (t := _) rfl (fun c7 => ?_) (fun c7 => ?_)
  · simp [go_sem] at c7
    obtain ⟨x, post, rfl, hx⟩ := mid_lt hl c7
    refine awp_skip ?_
    refine hK6 _ ?_
    clear hK6
    refine awp_seq fun K8 hK8 => ?_
    refine awp_block ?_
    refine awp_seq fun K9 hK9 => ?_
    refine awp_region ?_
    iterate 3
      refine opsK_cons fun J hJ => ?_
      simp [go_sem, hx]
      refine hJ _ _ _ ?_
      clear hJ J
    refine opsK_nil ?_
    refine hK9 _ ?_
    clear hK9
    refine awp_seq fun K10 hK10 => ?_
    refine awp_region ?_
    iterate 3
      refine opsK_cons fun J hJ => ?_
      simp [go_sem]
      refine hJ _ _ _ ?_
      clear hJ J
    refine opsK_nil ?_
    refine hK10 _ ?_
    clear hK10
    refine awp_cond (t := _) rfl (fun c11 => ?_) (fun c11 => ?_)
    · simp [go_sem] at c11
      refine awp_seq fun K12 hK12 => ?_
      refine awp_region ?_
      iterate 2
        refine opsK_cons fun J hJ => ?_
        simp [go_sem]
        refine hJ _ _ _ ?_
        clear hJ J
      refine opsK_nil ?_
      refine hK12 _ ?_
      clear hK12
      refine awp_ret ?_
      refine finWQ_of [] ?_
      simp [go_sem, Try.f77, ← hgo, orL, c11]
    · simp [go_sem] at c11
      refine awp_skip ?_
      refine hK8 _ ?_
      clear hK8
      refine awp_region ?_
      iterate 2
        refine opsK_cons fun J hJ => ?_
        simp [go_sem]
        refine hJ _ _ _ ?_
        clear hJ J
      refine opsK_nil ?_
      refine ⟨⟨(pre ++ [x], post), by simp [← hl], by rw [← hgo]; simp [orL, c11]⟩, ?_, by simp⟩
      refine weak_of [] (by simp [go_sem]) ?_ ?_ <;> simp [go_sem, wrap_nat hpl]
  · simp [go_sem] at c7
    obtain ⟨rfl, rfl⟩ := mid_nil hl c7
    refine awp_exit ?_
    simp only [go_sem]
    refine hK3 _ ?_
    clear hK3
    refine awp_seq fun K13 hK13 => ?_
    refine awp_region ?_
    iterate 2
      refine opsK_cons fun J hJ => ?_
      simp [go_sem]
      refine hJ _ _ _ ?_
      clear hJ J
    refine opsK_nil ?_
    refine hK13 _ ?_
    clear hK13
    refine awp_ret ?_
    refine finWQ_of [] ?_
    simp [go_sem, Try.f77, ← hgo, orL]

end Go.Proofs.Ytebflegkdfhoaaa.AE
