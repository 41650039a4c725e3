/-
  A plain machine for the code of functions, and its soundness: part AE23. Conditions: none; every lemma names its own.
-/
import Derived.Test.YtebflegkdfhoaaaAE22
namespace Go.Proofs.Ytebflegkdfhoaaa.AE
open Go Go.RowKit
set_option linter.unusedVariables false
/-! ## States told anew -/
/-- Old numbers of boxes: none is no box (a nil slice). -/
abbrev Ren := List (Bid × Option Bid)
def flat0 : AV → Prop
  | .int _ _ | .bool _ | .str _ | .nils | .nilp | .nili | .sl _ _ => True
  | _ => False
def isObj : Option Box → Bool
  | some (.obj _) => true
  | _ => false
/-- A box that is not told any more. -/
def dropped (ρ : Ren) (b : Bid) : Prop := ∀ p ∈ ρ, p.2 ≠ some b
/-- The first value tells no more than the second. -/
def le (H0 H : Heap) (ρ : Ren) : AV → AV → Prop
  | .u, _ => True
  | .own b' n, .own b m => ρ.lookup b' = some (some b) ∧ n = m ∧ isRow (H b') = true
  | .own b' n, .nils => ρ.lookup b' = some none ∧ n = 0 ∧ isRow (H b') = true
  | .sl _ L, .nils => L = []
  | .sl k L, .own b n => rowOf n (H0 b) = some (k, L) ∧ dropped ρ b
  | .ref b' o, .ref b p => ρ.lookup b' = some (some b) ∧ o = p ∧ isObj (H b') = true
  | .agg cs, .agg ds => leC H0 H ρ cs ds
  | .fn f cs, .fn g ds => f = g ∧ leC H0 H ρ cs ds
  | .ifc t x, .ifc t' y => t = t' ∧ le H0 H ρ x y
  | .iref cs o, v => v = .iref cs o
  | .ub, v => v = .ub
  | .int k n, v => v = .int k n
  | .bool b, v => v = .bool b
  | .str b, v => v = .str b
  | .nils, v => v = .nils
  | .sl k L, v => v = .sl k L
  | .nilp, v => v = .nilp
  | .nili, v => v = .nili
  | _, _ => False
where
  leC (H0 H : Heap) (ρ : Ren) : List AV → List AV → Prop
  | [], [] => True
  | a :: l, b :: m => le H0 H ρ a b ∧ leC H0 H ρ l m
  | _, _ => False
theorem leC_at {H0 H : Heap} {ρ : Ren} : ∀ (l m : List AV), le.leC H0 H ρ l m → l.length = m.length ∧ ∀ (i : Nat) (a : AV), l[i]? = some a → ∃ b, m[i]? = some b ∧ le H0 H ρ a b
  | [], [], _ => ⟨rfl, fun i a h => by simp at h⟩
  | a :: l, b :: m, h => by
    simp only [le.leC] at h
    obtain ⟨h1, h2⟩ := leC_at l m h.2
    refine ⟨by simp [h1], fun i c hc => ?_⟩
    cases i with
    | zero => simp at hc; subst hc; exact ⟨b, by simp, h.1⟩
    | succ i => simp at hc ⊢; exact h2 i c hc
  | [], _ :: _, h => by simp [le.leC] at h
  | _ :: _, [], h => by simp [le.leC] at h
/-- Cells of rows: no slice may be told as an empty one. -/
def le0 : AV → AV → Prop
  | .sl k L, v => v = .sl k L ∨ (L = [] ∧ v = .nils)
  | x, v => v = x
def leRow : List AV → List AV → Prop
  | [], [] => True
  | x :: l, y :: m => le0 x y ∧ leRow l m
  | _, _ => False
def leRows : List (List AV) → List (List AV) → Prop
  | [], [] => True
  | x :: l, y :: m => leRow x y ∧ leRows l m
  | _, _ => False
theorem leRow_at : ∀ {l m : List AV}, leRow l m → l.length = m.length ∧ ∀ (i : Nat) (x : AV), l[i]? = some x → ∃ y, m[i]? = some y ∧ le0 x y
  | [], [], _ => ⟨rfl, fun i x h => by simp at h⟩
  | x :: l, y :: m, h => by
    simp only [leRow] at h
    obtain ⟨h1, h2⟩ := leRow_at h.2
    refine ⟨by simp [h1], fun i z hz => ?_⟩
    cases i with
    | zero => simp at hz; subst hz; exact ⟨y, by simp, h.1⟩
    | succ i => simp at hz ⊢; exact h2 i z hz
  | [], _ :: _, h => by simp [leRow] at h
  | _ :: _, [], h => by simp [leRow] at h
theorem leRows_at : ∀ {l m : List (List AV)}, leRows l m → l.length = m.length ∧ ∀ (i : Nat) (x : List AV), l[i]? = some x → ∃ y, m[i]? = some y ∧ leRow x y
  | [], [], _ => ⟨rfl, fun i x h => by simp at h⟩
  | x :: l, y :: m, h => by
    simp only [leRows] at h
    obtain ⟨h1, h2⟩ := leRows_at h.2
    refine ⟨by simp [h1], fun i z hz => ?_⟩
    cases i with
    | zero => simp at hz; subst hz; exact ⟨y, by simp, h.1⟩
    | succ i => simp at hz ⊢; exact h2 i z hz
  | [], _ :: _, h => by simp [leRows] at h
  | _ :: _, [], h => by simp [leRows] at h
theorem le0_refl (x : AV) : le0 x x := by cases x <;> simp [le0]
theorem leRow_refl : ∀ l, leRow l l
  | [] => trivial
  | x :: l => ⟨le0_refl x, leRow_refl l⟩
theorem leRows_refl : ∀ L, leRows L L
  | [] => trivial
  | x :: l => ⟨leRow_refl x, leRows_refl l⟩
theorem leRows_append : ∀ {l m l' m' : List (List AV)}, leRows l m → leRows l' m' → leRows (l ++ l') (m ++ m')
  | [], [], _, _, _, h => h
  | x :: l, y :: m, _, _, h, h' => ⟨h.1, leRows_append h.2 h'⟩
theorem le0_rep {w : World} {M M' : Nat → Prop} {μ μ' : Lay} {x y : AV} {v : Value} (hle : le0 x y) (h : Rep w M μ noH y v) (hM : ∀ g, ¬ M g → ¬ M' g) : Rep w M' μ' noH x v := by
  have key : Rep w M' μ' noH y v := h.mono (fun g _ hg => ⟨hM g hg, rfl⟩) (HLe.refl _) (fun b hb => absurd rfl hb)
  cases x with
  | sl k L =>
    simp only [le0] at hle
    rcases hle with rfl | ⟨rfl, rfl⟩
    · exact key
    · cases key; exact .sl _ _ _ none 0 (fun _ _ => undef) (Nat.le_refl _) (Nat.zero_le _) (by simp) (by simp) (by simp)
  | _ => simp only [le0] at hle; subst hle; exact key
def leB (H0 H : Heap) (ρ : Ren) : Box → Box → Prop
  | .obj cs, .obj ds => le.leC H0 H ρ cs ds
  | .row e sz L z, .row e' sz' L' z' => e = e' ∧ sz = sz' ∧ leRows L L' ∧ (z = false → z' = false)
  | .dead, .row _ _ _ _ => True
  | .dead, .dead => True
  | _, _ => False
def boxOK (H' : Heap) (ρ : Ren) (H : Heap) (b' : Bid) (x : Box) : Prop := match ρ.lookup b' with
  | some (some b) => match H b with
    | some y => leB H H' ρ x y
    | none => False
  | some none => match x with
    | .row _ sz L _ => 0 < sz ∧ L = []
    | _ => False
  | none => False
def boxesOK (H' : Heap) (ρ : Ren) (H : Heap) : List (Bid × Box) → Prop
  | [] => True
  | (b, x) :: l => boxOK H' ρ H b x ∧ boxesOK H' ρ H l
def tmpsOK (H0 H' : Heap) (ρ : Ren) (t : Nat → AV) : List (Nat × AV) → Prop
  | [] => True
  | (i, v) :: l => le H0 H' ρ v (t i) ∧ tmpsOK H0 H' ρ t l
/-- No two numbers for one box; boxes that were passed keep theirs. -/
def renOK : Ren → Prop
  | [] => True
  | (b', none) :: l => b'.1 ≠ 1 ∧ renOK l
  | (b', some b) :: l => (∀ p ∈ l, p.2 ≠ some b) ∧ (b'.1 = 1 → b = b') ∧ renOK l
theorem lookup_mem {β : Type} {b' : Bid} {x : β} : ∀ {l : List (Bid × β)}, l.lookup b' = some x → (b', x) ∈ l
  | [], h => by simp at h
  | (q, y) :: l, h => by
    simp only [List.lookup] at h
    split at h
    · rename_i he
      have : b' = q := by simpa using he
      cases h; subst this; simp
    · exact List.mem_cons_of_mem _ (lookup_mem h)
theorem ren_pin : ∀ {ρ : Ren}, renOK ρ → ∀ i o, ((1, i), o) ∈ ρ → o = some (1, i)
  | (b', none) :: l, h, i, o, hm => by
    simp only [renOK] at h
    rcases List.mem_cons.1 hm with e | hm
    · cases e; exact absurd rfl h.1
    · exact ren_pin h.2 i o hm
  | (b', some b) :: l, h, i, o, hm => by
    simp only [renOK] at h
    rcases List.mem_cons.1 hm with e | hm
    · cases e; rw [h.2.1 rfl]
    · exact ren_pin h.2.2 i o hm
theorem ren_inj : ∀ {ρ : Ren}, renOK ρ → ∀ b1 b2 b, ρ.lookup b1 = some (some b) → ρ.lookup b2 = some (some b) → b1 = b2
  | [], _, _, _, _, h, _ => by simp at h
  | (c, o) :: l, hr, b1, b2, b, h1, h2 => by
    have tail : renOK l := by cases o <;> simp only [renOK] at hr; exact hr.2; exact hr.2.2
    have mem : ∀ (b' : Bid) (x : Option Bid), l.lookup b' = some x → (b', x) ∈ l := by
      intro b' x h
      clear h1 h2 hr tail
      induction l with
      | nil => simp at h
      | cons p l ih =>
        obtain ⟨q, y⟩ := p
        simp only [List.lookup] at h
        split at h
        · rename_i he; have : b' = q := by simpa using he
          cases h; subst this; simp
        · exact List.mem_cons_of_mem _ (ih h)
    simp only [List.lookup] at h1 h2
    split at h1 <;> split at h2
    · have e1 : b1 = c := by simpa using ‹(b1 == c) = true›
      have e2 : b2 = c := by simpa using ‹(b2 == c) = true›
      rw [e1, e2]
    · cases h1
      simp only [renOK] at hr
      exact absurd rfl (hr.1 _ (mem _ _ h2))
    · cases h2
      simp only [renOK] at hr
      exact absurd rfl (hr.1 _ (mem _ _ h1))
    · exact ren_inj tail b1 b2 b h1 h2
theorem hOf_mem {l : List (Bid × Box)} {b : Bid} {x : Box} (h : hOf l b = some x) : (b, x) ∈ l := by
  induction l with
  | nil => cases h
  | cons p l ih =>
    obtain ⟨b', y⟩ := p
    simp only [hOf, hput] at h
    split at h
    · rename_i e; cases h; rw [e]; simp
    · exact List.mem_cons_of_mem _ (ih h)
theorem boxesOK_mem {H' : Heap} {ρ : Ren} {H : Heap} : ∀ {l : List (Bid × Box)}, boxesOK H' ρ H l → ∀ b x, (b, x) ∈ l → boxOK H' ρ H b x
  | (c, y) :: l, h, b, x, hm => by
    simp only [boxesOK] at h
    rcases List.mem_cons.1 hm with e | hm
    · cases e; exact h.1
    · exact boxesOK_mem h.2 b x hm
def renLay (ρ : Ren) (μ : Lay) : Lay := fun b => match ρ.lookup b with
  | some (some c) => μ c
  | _ => none
section
variable {Γ : Ctx} {s : St} {μ : Lay} {a : Act} {w : World}
theorem flat0_rep {M M' : Nat → Prop} {μ μ' : Lay} {H H' : Heap} {v : AV} {x : Value} (h : Rep w M μ H v x) (hf : flat0 v) (hM : ∀ g, ¬ M g → ¬ M' g) : Rep w M' μ' H' v x := by
  cases h with
  | int => exact .int _ _ _
  | bool => exact .bool _ _
  | str => exact .str _ _
  | nils => exact .nils _
  | nilp => exact .nilp _
  | nili => exact .nili _
  | sl _ k L a c f hc hm hk hv hr =>
    exact .sl _ _ _ _ _ f hc hm hk (fun i j hi hj => (hv i j hi hj).mono fun g _ hg => ⟨hM g hg, rfl⟩) fun i j cs x hi hj => (hr i j cs x hi hj).mono (fun g _ hg => ⟨hM g hg, rfl⟩) (HLe.noH _) (fun b hb => absurd rfl hb)
  | _ => exact absurd hf (by simp [flat0])
/-- Memory told anew, and any value with it. -/
theorem retell (h : Rel Γ s μ a w) {hl : List (Bid × Box)} (ρ : Ren) (hρ : renOK ρ) (hb : boxesOK (hOf hl) ρ s.H hl) : Mem Γ (hOf hl) (renLay ρ μ) w ∧
    ∀ (v : AV) (x : Value), Rep w (forb Γ.Mx μ s.H) μ s.H v x → ∀ v', le s.H (hOf hl) ρ v' v → Rep w (forb Γ.Mx (renLay ρ μ) (hOf hl)) (renLay ρ μ) (hOf hl) v' x := by
  have hbox : ∀ b' x, hOf hl b' = some x → boxOK (hOf hl) ρ s.H b' x := fun b' x hx => boxesOK_mem hb b' x (hOf_mem hx)
  -- a new box is an old one, or no box
  have hold : ∀ b' x, hOf hl b' = some x → (∃ b y, ρ.lookup b' = some (some b) ∧ s.H b = some y ∧ leB s.H (hOf hl) ρ x y ∧ renLay ρ μ b' = μ b) ∨ (ρ.lookup b' = some none ∧ renLay ρ μ b' = none ∧ ∃ e sz z, x = .row e sz [] z ∧ 0 < sz) := by
    intro b' x hx
    have := hbox b' x hx
    unfold boxOK at this
    unfold renLay
    cases hr : ρ.lookup b' with
    | none => rw [hr] at this; exact this.elim
    | some o =>
      cases o with
      | none =>
        rw [hr] at this
        simp only at this
        cases x with
        | row e sz L z => obtain ⟨h1, rfl⟩ := this; exact .inr ⟨rfl, rfl, e, sz, z, rfl, h1⟩
        | _ => exact this.elim
      | some b =>
        rw [hr] at this
        simp only at this
        cases hs : s.H b with
        | none => rw [hs] at this; exact this.elim
        | some y => rw [hs] at this; exact .inl ⟨b, y, rfl, rfl.trans hs, this, rfl⟩
  have hhot : ∀ {x y}, leB s.H (hOf hl) ρ x y → (x.hot = true → y.hot = true) ∧ (x.live = true → y.live = true) := by
    intro x y hxy
    cases x with
    | obj cs => cases y <;> simp only [leB] at hxy; exact ⟨fun h => h, fun h => h⟩
    | dead => exact ⟨fun h => (by cases h), fun h => (by cases h)⟩
    | row e sz L z =>
      cases y <;> simp only [leB] at hxy
      obtain ⟨_, _, _, hz⟩ := hxy
      refine ⟨fun h => ?_, fun h => rfl⟩
      cases z with
      | true => cases h
      | false => rw [hz rfl]; rfl
  have hforb : ∀ g, ¬ forb Γ.Mx μ s.H g → ¬ forb Γ.Mx (renLay ρ μ) (hOf hl) g := by
    rintro g hg (hx | ⟨b', x, c, q1, q2, q3⟩)
    · exact hg (.inl hx)
    · rcases hold b' x q1 with ⟨b, y, r1, r2, r3, r4⟩ | ⟨_, r1, _⟩
      · rw [r4] at q3
        exact hg (.inr ⟨b, y, c, r2, (hhot r3).1 q2, q3⟩)
      · rw [r1] at q3; cases q3
  have hrep : ∀ {v : AV} {x : Value} {H : Heap}, Rep w (forb Γ.Mx μ s.H) μ H v x → H = s.H → ∀ v', le s.H (hOf hl) ρ v' v → Rep w (forb Γ.Mx (renLay ρ μ) (hOf hl)) (renLay ρ μ) (hOf hl) v' x := by
    intro v x H hx
    induction hx with
    | u H v => intro hH v' hle; cases v' <;> simp [le] at hle; exact .u _ _
    | int H k n => intro hH v' hle; cases v' <;> simp [le] at hle <;> first | exact .u _ _ | (obtain ⟨rfl, rfl⟩ := hle; exact .int _ _ _)
    | bool H b => intro hH v' hle; cases v' <;> simp [le] at hle <;> first | exact .u _ _ | (subst hle; exact .bool _ _)
    | str H b => intro hH v' hle; cases v' <;> simp [le] at hle <;> first | exact .u _ _ | (subst hle; exact .str _ _)
    | nilp H => intro hH v' hle; cases v' <;> simp [le] at hle <;> first | exact .u _ _ | exact .nilp _
    | nili H => intro hH v' hle; cases v' <;> simp [le] at hle <;> first | exact .u _ _ | exact .nili _
    | ub H b => intro hH v' hle; cases v' <;> simp [le] at hle <;> first | exact .u _ _ | exact .ub _ _
    | nils H =>
      intro hH v' hle
      cases v' with
      | own b' n =>
        simp only [le] at hle
        obtain ⟨h1, rfl, h3⟩ := hle
        cases hq : hOf hl b' with
        | none => rw [hq] at h3; simp [isRow] at h3
        | some x =>
          rcases hold b' x hq with ⟨b, y, r1, _⟩ | ⟨_, r1, e, sz, z, rfl, _⟩
          · rw [h1] at r1; cases r1
          · have := @Rep.own w (forb Γ.Mx (renLay ρ μ) (hOf hl)) (renLay ρ μ) (hOf hl) b' 0 _ _ _ _ hq (Nat.zero_le _)
            rw [r1] at this
            exact this
      | sl k L => simp only [le] at hle; subst hle; exact .sl _ _ _ none 0 (fun _ _ => undef) (Nat.le_refl _) (Nat.zero_le _) (by simp) (by simp) (by simp)
      | u => exact .u _ _
      | nils => exact .nils _
      | _ => simp [le] at hle
    | sl H k L a c f hc hm hk hv hr ih =>
      intro hH v' hle
      have key : Rep w (forb Γ.Mx (renLay ρ μ) (hOf hl)) (renLay ρ μ) (hOf hl) (.sl k L) (.slice a L.length c) :=
        .sl _ _ _ _ _ f hc hm hk (fun i j hi hj => (hv i j hi hj).mono fun g _ hg => ⟨hforb g hg, rfl⟩) fun i j cs x hi hj => (hr i j cs x hi hj).mono (fun g _ hg => ⟨hforb g hg, rfl⟩) (HLe.refl _) (fun b hb => absurd rfl hb)
      cases v' <;> simp [le] at hle <;> first | exact .u _ _ | (obtain ⟨rfl, rfl⟩ := hle; exact key)
    | agg H cs vs f hs hv hr ih =>
      intro hH v' hle
      cases v' with
      | agg ds =>
        simp only [le] at hle
        obtain ⟨l1, l2⟩ := leC_at _ _ hle
        refine .agg _ _ _ f (by rw [l1]; exact hs) (fun i hi => hv i (by omega)) fun i c hc => ?_
        obtain ⟨d, hd1, hd2⟩ := l2 i c hc
        exact ih i d hd1 hH c hd2
      | u => exact .u _ _
      | _ => simp [le] at hle
    | own H b n e sz L z hH hn =>
      intro hH' v' hle
      subst hH'
      cases v' with
      | own b' m =>
        simp only [le] at hle
        obtain ⟨h1, rfl, h3⟩ := hle
        cases hq : hOf hl b' with
        | none => rw [hq] at h3; simp [isRow] at h3
        | some x =>
          rcases hold b' x hq with ⟨b0, y, r1, r2, r3, r4⟩ | ⟨r1, _⟩
          · rw [h1] at r1; cases r1
            rw [hH] at r2; cases r2
            cases x with
            | obj cs => simp only [leB] at r3
            | dead => rw [hq] at h3; cases h3
            | row e1 sz1 L1 z1 =>
              simp only [leB] at r3
              obtain ⟨rfl, rfl, rl, _⟩ := r3
              rw [← r4]
              exact .own _ _ _ _ _ _ _ hq (by rw [(leRows_at rl).1]; exact hn)
          · rw [h1] at r1; cases r1
      | sl k L' =>
        simp only [le, hH, rowOf, Option.some.injEq, Prod.mk.injEq] at hle
        obtain ⟨⟨rfl, rfl⟩, hdr⟩ := hle
        refine row_rep h hH hn hforb fun g c hg hF => ?_
        rcases hF with hx | ⟨b', x, c', q1, q2, q3⟩
        · obtain ⟨h1, h2⟩ := h.hx g hx
          exact (h.hf b _ g c hH hg rfl).elim (fun h => by omega) h2
        · rcases hold b' x q1 with ⟨b0, y, r1, r2, r3, r4⟩ | ⟨_, r1, _⟩
          · rw [r4] at q3
            have := h.hi b0 b y _ g c' c r2 hH ((hhot r3).1 q2) rfl q3 hg
            subst this
            exact hdr _ (lookup_mem r1) rfl
          · rw [r1] at q3; cases q3
      | u => exact .u _ _
      | _ => simp [le] at hle
    | ownd H b n v hH h1 =>
      intro hH' v' hle
      subst hH'
      cases v' with
      | own b' m =>
        simp only [le] at hle
        obtain ⟨h1, rfl, h3⟩ := hle
        cases hq : hOf hl b' with
        | none => rw [hq] at h3; simp [isRow] at h3
        | some x =>
          rcases hold b' x hq with ⟨b0, y, r1, r2, r3, r4⟩ | ⟨r1, _⟩
          · rw [h1] at r1; cases r1
            rw [hH] at r2; cases r2
            cases x <;> simp only [leB] at r3
            rw [hq] at h3; simp [isRow] at h3
          · rw [h1] at r1; cases r1
      | sl k L' => simp [le, hH, rowOf] at hle
      | u => exact .u _ _
      | _ => simp [le] at hle
    | ref H b o cs g c hH hμ =>
      intro hH' v' hle
      subst hH'
      cases v' with
      | ref b' m =>
        simp only [le] at hle
        obtain ⟨h1, rfl, h3⟩ := hle
        cases hq : hOf hl b' with
        | none => rw [hq] at h3; simp [isObj] at h3
        | some x =>
          rcases hold b' x hq with ⟨b0, y, r1, r2, r3, r4⟩ | ⟨r1, _⟩
          · rw [h1] at r1; cases r1
            rw [hH] at r2; cases r2
            cases x <;> simp only [leB] at r3
            exact .ref _ _ _ _ _ c hq (by rw [r4]; exact hμ)
          · rw [h1] at r1; cases r1
      | u => exact .u _ _
      | _ => simp [le] at hle
    | fn H f caps vs g hs hv hr ih =>
      intro hH v' hle
      cases v' with
      | fn f' ds =>
        simp only [le] at hle
        obtain ⟨rfl, hle⟩ := hle
        obtain ⟨l1, l2⟩ := leC_at _ _ hle
        refine .fn _ _ _ _ g (by rw [l1]; exact hs) (fun i hi => hv i (by omega)) fun i c hc => ?_
        obtain ⟨d, hd1, hd2⟩ := l2 i c hc
        exact ih i d hd1 hH c hd2
      | u => exact .u _ _
      | _ => simp [le] at hle
    | eref => intro hH v' hle; cases v' <;> simp [le] at hle; exact .u _ _
    | erefd => intro hH v' hle; cases v' <;> simp [le] at hle; exact .u _ _
    | iref H cs o g off f hv hr ih =>
      intro hH v' hle
      have key : Rep w (forb Γ.Mx (renLay ρ μ) (hOf hl)) (renLay ρ μ) (hOf hl) (.iref cs o) (.pointer (some ⟨g, off + o, none⟩)) :=
        .iref _ _ _ _ _ f (fun j hj => (hv j hj).mono fun g _ hg => ⟨hforb g hg, rfl⟩) fun j x hj => (hr j x hj).mono (fun g _ hg => ⟨hforb g hg, rfl⟩) (HLe.refl _) (fun b hb => absurd rfl hb)
      cases v' <;> simp [le] at hle <;> first | exact .u _ _ | (obtain ⟨rfl, rfl⟩ := hle; exact key)
    | tup => intro hH v' hle; cases v' <;> simp [le] at hle; exact .u _ _
    | ifc H t v x hr ih =>
      intro hH v' hle
      cases v' with
      | ifc t' y =>
        simp only [le] at hle
        obtain ⟨rfl, hle⟩ := hle
        exact .ifc _ _ _ _ (ih hH y hle)
      | u => exact .u _ _
      | _ => simp [le] at hle
  refine ⟨⟨h.hx, fun b' x hx => ?_, ?_, ?_, h.hw, ?_⟩, fun v x hx v' hv => hrep hx rfl v' hv⟩
  · rcases hold b' x hx with ⟨b, y, r1, r2, r3, r4⟩ | ⟨_, r1, e, sz, z, rfl, hp⟩
    · rcases h.hb b y r2 with rfl | ⟨g, c, cur, e, q1, q2, q3⟩ | ⟨q1, e, sz, z, rfl, q3⟩
      · cases x <;> simp only [leB] at r3; exact .inl rfl
      · by_cases hxd : x = .dead
        · exact .inl hxd
        refine .inr (.inl ⟨g, c, cur, e, by rw [r4]; exact q1, q2, ?_⟩)
        cases x <;> cases y <;> simp only [leB] at r3
        · obtain ⟨l1, l2⟩ := leC_at _ _ r3
          refine ⟨by rw [l1]; exact q3.1, fun i c' hc => ?_⟩
          obtain ⟨d, hd1, hd2⟩ := l2 i c' hc
          obtain ⟨v, v1, v2, v3⟩ := q3.2 i d hd1
          exact ⟨v, v1, v2, hrep v3 rfl _ hd2⟩
        · obtain ⟨rfl, rfl, rl, _⟩ := r3
          obtain ⟨p1, p2, p3, p4, p5, p6, p7⟩ := q3
          obtain ⟨l1, l2⟩ := leRows_at rl
          refine ⟨p1, p2, fun xs hxs => ?_, p4, by omega, p6, fun i j xs x' hi hj => ?_⟩
          · obtain ⟨i, hi⟩ := List.mem_iff_getElem?.1 hxs
            obtain ⟨ys, hy, hl⟩ := l2 i xs hi
            rw [(leRow_at hl).1]
            exact p3 ys (List.mem_of_getElem? hy)
          · obtain ⟨ys, hy, hl⟩ := l2 i xs hi
            obtain ⟨y', hy', hl'⟩ := (leRow_at hl).2 j x' hj
            obtain ⟨v, v1, v2, v3⟩ := p7 i j ys y' hy hy'
            exact ⟨v, v1, v2, le0_rep hl' v3 hforb⟩
        · exact absurd rfl hxd
        · exact absurd rfl hxd
      · cases x <;> simp only [leB] at r3
        case dead => exact .inl rfl
        obtain ⟨rfl, rfl, rl, _⟩ := r3
        have := (leRows_at rl).1
        simp only [List.length_nil, List.length_eq_zero_iff] at this
        subst this
        exact .inr (.inr ⟨by rw [r4]; exact q1, _, _, _, rfl, q3⟩)
    · exact .inr (.inr ⟨r1, e, sz, z, rfl, hp⟩)
  · intro b1 b2 x1 x2 g c1 c2 q1 q2 q3 q4 q5 q6
    rcases hold b1 x1 q1 with ⟨a1, y1, r1, r2, r3, r4⟩ | ⟨_, r1, _⟩
    · rcases hold b2 x2 q2 with ⟨a2, y2, t1, t2, t3, t4⟩ | ⟨_, t1, _⟩
      · rw [r4] at q5
        rw [t4] at q6
        have := h.hi a1 a2 y1 y2 g c1 c2 r2 t2 ((hhot r3).1 q3) ((hhot t3).2 q4) q5 q6
        subst this
        exact ren_inj hρ b1 b2 a1 r1 t1
      · rw [t1] at q6; cases q6
    · rw [r1] at q5; cases q5
  · intro b' x g c q1 q2 q3
    rcases hold b' x q1 with ⟨b, y, r1, r2, r3, r4⟩ | ⟨_, r1, _⟩
    · rw [r4] at q2
      exact h.hf b y g c r2 q2 ((hhot r3).2 q3)
    · rw [r1] at q2; cases q2
  · intro i x q1 q2
    rcases hold (1, i) x q1 with ⟨b, y, r1, r2, r3, r4⟩ | ⟨r1, _⟩
    · have := ren_pin hρ i _ (lookup_mem r1)
      cases this
      rw [r4]
      exact h.hp i y r2 ((hhot r3).2 q2)
    · have := ren_pin hρ i _ (lookup_mem r1)
      cases this
theorem weak_of {tl : List (Nat × AV)} {hl : List (Bid × Box)} (ρ : Ren) (hρ : renOK ρ) (ht : tmpsOK s.H (hOf hl) ρ s.t tl) (hb : boxesOK (hOf hl) ρ s.H hl) : Weak Γ ⟨ofL tl, hOf hl⟩ s := by
  intro μ a w h
  obtain ⟨hm, hrep⟩ := retell h ρ hρ hb
  refine ⟨renLay ρ μ, h.hd, h.hn, h.hx, fun i => ?_, hm.hb, hm.hi, hm.hf, hm.hw, hm.hp⟩
  have key : ∀ (l : List (Nat × AV)), tmpsOK s.H (hOf hl) ρ s.t l → le s.H (hOf hl) ρ (ofL l i) (s.t i) := by
    intro l
    induction l with
    | nil => intro _; simp [ofL, le]
    | cons p l ih =>
      obtain ⟨k, v⟩ := p
      intro hl'
      simp only [tmpsOK] at hl'
      simp only [ofL, fput]
      split
      · rename_i e; rw [e]; exact hl'.1
      · exact ih hl'.2
  exact hrep _ _ (h.ht i) _ (key tl ht)
/-- A row is told to stay. -/
theorem weak_frz {e : TypeId} {sz : Nat} {L : List (List AV)} {z : Bool} (b : Bid) (hb : s.H b = some (.row e sz L z)) : Weak Γ ⟨s.t, hput s.H b (.row e sz L true)⟩ s := fun μ a w h => ⟨μ, h.freeze hb⟩
end
end Go.Proofs.Ytebflegkdfhoaaa.AE
