/-
  A plain machine for the code of functions, and its soundness: part AE19. Conditions: none; every lemma names its own.
-/
import Derived.Test.YtebflegkdfhoaaaAE18
namespace Go.Proofs.Ytebflegkdfhoaaa.AE
open Go Go.RowKit
set_option linter.unusedVariables false
/-! ## Two operations the other way round -/
theorem hnews_live {H H1 : Heap} : ∀ (l : List (Bid × Box)) {H H1 : Heap}, hnews H l = some H1 → (∀ b, H b ≠ none → H1 b = H b) ∧ (∀ b, H1 b = none → H b = none) ∧ (∀ p ∈ l, H1 p.1 ≠ none ∧ H p.1 = none)
  | [], H, H1, h => by cases h; exact ⟨fun _ _ => rfl, fun _ h => h, fun p hp => by simp at hp⟩
  | (b, x) :: l, H, H1, h => by
    simp only [hnews] at h
    split at h
    · rename_i hn
      have hn' : H b = none := by simpa using hn
      obtain ⟨i1, i2, i3⟩ := @hnews_live H H1 l _ _ h
      have hle : ∀ b', H b' ≠ none → hput H b x b' = H b' := fun b' hb' => by
        have : b' ≠ b := by rintro rfl; exact hb' hn'
        simp [hput, this]
      refine ⟨fun b' hb' => (i1 b' (by rw [hle b' hb']; exact hb')).trans (hle b' hb'), fun b' hb' => ?_, fun p hp => ?_⟩
      · have := i2 b' hb'
        simp only [hput] at this
        split at this
        · cases this
        · exact this
      · rcases List.mem_cons.1 hp with rfl | hp
        · refine ⟨?_, hn'⟩
          rw [i1 b (by simp [hput])]
          simp [hput]
        · refine ⟨(i3 p hp).1, ?_⟩
          have := (i3 p hp).2
          simp only [hput] at this
          split at this
          · cases this
          · exact this
    · cases h
/-- New boxes, where fewer are there. -/
theorem hnews_anti : ∀ (l : List (Bid × Box)) {H H' H1 : Heap}, hnews H' l = some H1 → (∀ b, H' b = none → H b = none) → (∃ H2, hnews H l = some H2)
  | [], H, H', H1, _, _ => ⟨H, rfl⟩
  | (b, x) :: l, H, H', H1, h, hle => by
    simp only [hnews] at h ⊢
    split at h
    · rename_i hn
      have hn' : H b = none := hle b (by simpa using hn)
      rw [if_pos (by simp [hn'])]
      exact hnews_anti l h fun b' hb' => by
        simp only [hput] at hb' ⊢
        split at hb'
        · cases hb'
        · rename_i he; simp [he, hle b' hb']
    · cases h
theorem hnews_eq : ∀ (l : List (Bid × Box)) {H H1 : Heap}, hnews H l = some H1 → H1 = hputs H l
  | [], H, H1, h => by cases h; rfl
  | (b, x) :: l, H, H1, h => by
    simp only [hnews] at h
    split at h
    · exact hnews_eq l h
    · cases h
theorem hnews_put {b : Bid} {x : Box} : ∀ (l : List (Bid × Box)) {H H1 : Heap}, hnews H l = some H1 → H b = none → (∀ p ∈ l, p.1 ≠ b) → hnews (hput H b x) l = some (hput H1 b x)
  | [], H, H1, h, _, _ => by cases h; rfl
  | (b', y) :: l, H, H1, h, hb, hl => by
    simp only [hnews] at h ⊢
    have hne : b' ≠ b := hl (b', y) (by simp)
    split at h
    · rename_i hn
      have : hput H b x b' = H b' := by simp [hput, hne]
      rw [this, if_pos hn, hput_swap H x y (Ne.symm hne)]
      exact hnews_put l h (by simp [hput, Ne.symm hne, hb]) (fun p hp => hl p (by simp [hp]))
    · cases h
theorem hnews_comm : ∀ (l m : List (Bid × Box)) {H H1 H2 : Heap}, hnews H l = some H1 → hnews H1 m = some H2 → ∃ H1', hnews H m = some H1' ∧ hnews H1' l = some H2
  | [], m, H, H1, H2, h1, h2 => by cases h1; exact ⟨H2, h2, rfl⟩
  | (b, x) :: l, m, H, H1, H2, h1, h2 => by
    simp only [hnews] at h1
    split at h1
    · rename_i hn
      have hn' : H b = none := by simpa using hn
      obtain ⟨H1', g1, g2⟩ := hnews_comm l m h1 h2
      obtain ⟨H3, g3⟩ := hnews_anti (H := H) m g1 (fun b' hb' => by
        simp only [hput] at hb'
        split at hb'
        · cases hb'
        · exact hb')
      have hl := (@hnews_live H H m _ _ g1).2.2
      have hne : ∀ p ∈ m, p.1 ≠ b := fun p hp he => by
        have := (hl p hp).2
        rw [he] at this
        simp [hput] at this
      have := hnews_put (x := x) m g3 hn' hne
      rw [g1] at this
      cases this
      refine ⟨H3, g3, ?_⟩
      have h3n : H3 b = none := by
        rw [hnews_eq m g3, hputs_at m H hne]; exact hn'
      simp only [hnews, h3n, Option.isNone_none, if_true]
      exact g2
    · cases h1
theorem tput_comm {t : Nat → AV} {x y : Option Tmp} {v uu : AV} (h : ∀ d, x = some d → y ≠ some d) : tput (tput t x v) y uu = tput (tput t y uu) x v := by
  funext i
  simp only [tput_at]
  by_cases h1 : y = some i <;> by_cases h2 : x = some i
  · exact absurd h1 (h i h2)
  · simp [h1, h2]
  · simp [h1, h2]
  · simp [h1, h2]
/-- May two operations be the other way round, for what they change and look at? -/
def pairOK (ox oy : Oper) (x y : List Bid × List Bid) : Bool :=
  (x.1.isEmpty && y.1.isEmpty) || pureOp ox.op || pureOp oy.op
  || (loadOp ox.op && x.2.all (fun b => !y.1.contains b)) || (loadOp oy.op && y.2.all (fun b => !x.1.contains b))
section
variable {Γ : Ctx} {s : St} {μ : Lay} {a : Act} {w : World} {env : Env} {ops : Array Oper}
theorem step_parts {o : Oper} {s' : St} {c f : List Bid} (h : aStep (TI.of Γ.P) env ops o s = some ⟨s', c, f, none⟩) :
    ∃ r H1, eff (TI.of Γ.P) env ops o s.t s.H = some r ∧ r.pan = none ∧ hnews s.H r.nw = some H1 ∧ s' = ⟨tput s.t o.dst r.v, hputs H1 r.up⟩ ∧ c = r.up.map (·.1) ∧ f = r.fp := by
  rw [aStep_eff] at h
  obtain ⟨r, H1, h1, h2, h3⟩ := fin_some h
  simp only [Out.mk.injEq] at h3
  obtain ⟨e1, e2, e3, e4⟩ := h3
  exact ⟨r, H1, h1, e4.symm, h2, by rw [e1, ← e4], e2, e3⟩
theorem step_make {o : Oper} {r : R} {H1 : Heap} (h1 : eff (TI.of Γ.P) env ops o s.t s.H = some r) (h2 : r.pan = none) (h3 : hnews s.H r.nw = some H1) :
    aStep (TI.of Γ.P) env ops o s = some ⟨⟨tput s.t o.dst r.v, hputs H1 r.up⟩, r.up.map (·.1), r.fp, none⟩ := by
  rw [aStep_eff, h1]
  simp only [fin, h3, finH, h2]
theorem map_nil {α β : Type} {f : α → β} {l : List α} (h : (l.map f).isEmpty = true) : l = [] := by cases l <;> simp_all
theorem commute (h : Rel Γ s μ a w) {x y : Oper} (hap : x.apart ops y = true) {s1 s2 : St} {cx fx cy fy : List Bid}
    (hx : aStep (TI.of Γ.P) env ops x s = some ⟨s1, cx, fx, none⟩) (hy : aStep (TI.of Γ.P) env ops y s1 = some ⟨s2, cy, fy, none⟩) (hp : pairOK x y (cx, fx) (cy, fy) = true) :
    ∃ s1', aStep (TI.of Γ.P) env ops y s = some ⟨s1', cy, fy, none⟩ ∧ aStep (TI.of Γ.P) env ops x s1' = some ⟨s2, cx, fx, none⟩ := by
  obtain ⟨ap1, ap2, ap3⟩ := Oper.apart_spec hap
  obtain ⟨rx, H1, ex, px, nx, rfl, rfl, rfl⟩ := step_parts hx
  obtain ⟨ry, H2, ey, py, ny, rfl, rfl, rfl⟩ := step_parts hy
  simp only at ey ny
  -- the temporaries
  have ty : ∀ H, eff (TI.of Γ.P) env ops y (tput s.t x.dst rx.v) H = eff (TI.of Γ.P) env ops y s.t H := fun H => eff_congr fun i hi => by
    rw [tput_at, if_neg]
    exact fun he => ap1 i he hi
  have tx : ∀ H v, eff (TI.of Γ.P) env ops x (tput s.t y.dst v) H = eff (TI.of Γ.P) env ops x s.t H := fun H v => eff_congr fun i hi => by
    rw [tput_at, if_neg]
    exact fun he => ap3 i he hi
  have tt : tput (tput s.t x.dst rx.v) y.dst ry.v = tput (tput s.t y.dst ry.v) x.dst rx.v := tput_comm ap2
  rw [ty] at ey
  simp only [pairOK, Bool.or_eq_true, Bool.and_eq_true] at hp
  -- the end, given both yields the other way round
  have close : ∀ (H1' H2' : Heap), eff (TI.of Γ.P) env ops y s.t s.H = some ry → hnews s.H ry.nw = some H1' → eff (TI.of Γ.P) env ops x s.t (hputs H1' ry.up) = some rx → hnews (hputs H1' ry.up) rx.nw = some H2' → hputs H2' rx.up = hputs H2 ry.up →
      ∃ s1', aStep (TI.of Γ.P) env ops y s = some ⟨s1', ry.up.map (·.1), ry.fp, none⟩ ∧ aStep (TI.of Γ.P) env ops x s1' = some ⟨⟨tput (tput s.t x.dst rx.v) y.dst ry.v, hputs H2 ry.up⟩, rx.up.map (·.1), rx.fp, none⟩ := by
    intro H1' H2' g1 g2 g3 g4 g5
    refine ⟨_, step_make g1 py g2, ?_⟩
    rw [tt, ← g5]
    exact step_make (s := ⟨tput s.t y.dst ry.v, hputs H1' ry.up⟩) (by simp only [tx]; exact g3) px g4
  rcases hp with (((⟨e1, e2⟩ | e1) | e1) | ⟨e1, e2⟩) | ⟨e1, e2⟩
  · have u1 := map_nil e1
    have u2 := map_nil e2
    rw [u1] at ey ny
    simp only [hputs] at ey ny
    have hl1 := @hnews_live s.H H1 _ _ _ nx
    rw [eff_ext h hl1.1] at ey
    obtain ⟨H1', g1, g2⟩ := hnews_comm _ _ nx ny
    have hl2 := @hnews_live s.H H1' _ _ _ g1
    refine close H1' H2 ey g1 ?_ ?_ ?_
    · rw [u2]; simp only [hputs]; rw [eff_ext h hl2.1]; exact ex
    · rw [u2]; exact g2
    · rw [u1, u2]
  · obtain ⟨n1, n2⟩ := eff_pure_parts e1 ex
    rw [n1] at nx
    cases nx
    rw [n2] at ey ny
    simp only [hputs] at ey ny
    refine close H2 (hputs H2 ry.up) ey ny ?_ ?_ ?_
    · rw [eff_pure e1 s.t _ s.H]; exact ex
    · rw [n1]; rfl
    · rw [n2]; rfl
  · obtain ⟨n1, n2⟩ := eff_pure_parts e1 ey
    rw [n1] at ny
    cases ny
    rw [eff_pure e1 s.t _ s.H] at ey
    refine close s.H H1 ey (by rw [n1]; rfl) ?_ ?_ ?_
    · rw [n2]; exact ex
    · rw [n2]; exact nx
    · rw [n2]; rfl
  · obtain ⟨n1, n2, n3, n4⟩ := eff_load h e1 ex
    rw [n1] at nx
    cases nx
    rw [n2] at ey ny
    simp only [hputs] at ey ny
    have hl := @hnews_live s.H H2 _ _ _ ny
    refine close H2 (hputs H2 ry.up) ey ny (n3 _ fun b hb => ?_) (by rw [n1]; rfl) (by rw [n2]; rfl)
    have h1 := List.all_eq_true.1 e2 b hb
    simp only [Bool.not_eq_true', List.contains_eq_mem, decide_eq_false_iff_not, List.mem_map, not_exists, not_and] at h1
    rw [hputs_at ry.up H2 (fun p hp he => h1 p hp he)]
    exact hl.1 b (n4 b hb)
  · obtain ⟨n1, n2, n3, n4⟩ := eff_load h e1 ey
    rw [n1] at ny
    cases ny
    have hl := @hnews_live s.H H1 _ _ _ nx
    have ey' : eff (TI.of Γ.P) env ops y s.t s.H = some ry := n3 _ fun b hb => by
      have h1 := List.all_eq_true.1 e2 b hb
      simp only [Bool.not_eq_true', List.contains_eq_mem, decide_eq_false_iff_not, List.mem_map, not_exists, not_and] at h1
      rw [hputs_at rx.up H1 (fun p hp he => h1 p hp he)]
      exact (hl.1 b (n4 b hb)).symm
    refine close s.H H1 ey' (by rw [n1]; rfl) ?_ ?_ ?_
    · rw [n2]; exact ex
    · rw [n2]; exact nx
    · rw [n2]; rfl
end
end Go.Proofs.Ytebflegkdfhoaaa.AE
