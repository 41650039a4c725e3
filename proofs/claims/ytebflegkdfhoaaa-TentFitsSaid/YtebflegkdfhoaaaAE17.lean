/-
  A plain machine for the code of functions, and its soundness: part AE17. Conditions: none; every lemma names its own.
-/
import Derived.Test.YtebflegkdfhoaaaAE16
namespace Go.Proofs.Ytebflegkdfhoaaa.AE
open Go Go.RowKit
set_option linter.unusedVariables false
/-! ## Regions that draw their order -/
section
variable {Γ : Ctx} {s : St} {μ : Lay} {a : Act} {w : World} {o : Oper} {env : Env}
theorem rep_own {M H} {b : Bid} {n : Nat} {x : Value} (h : Rep w M μ H (.own b n) x) : H b ≠ none := by cases h <;> simp_all
theorem rep_ref {M H} {b : Bid} {n : Nat} {x : Value} (h : Rep w M μ H (.ref b n) x) : H b ≠ none := by cases h; simp_all
theorem rep_eref {M H} {b : Bid} {i n : Nat} {x : Value} (h : Rep w M μ H (.eref b i n) x) : H b ≠ none := by cases h <;> simp_all
theorem content_ext {M : Nat → Prop} {H' : Heap} (hH : ∀ b, s.H b ≠ none → H' b = s.H b) {v : AV} {x : Value} (hx : Rep w M μ s.H v x) : content H' v = content s.H v := by
  cases v with
  | own b n => simp only [content, hH b (rep_own hx)]
  | _ => rfl
theorem view_ext (h : Rel Γ s μ a w) {H' : Heap} (hH : ∀ b, s.H b ≠ none → H' b = s.H b) : ∀ (d : Nat) (v : AV) (x : Value), Rep w (forb Γ.Mx μ s.H) μ s.H v x → view H' d v = view s.H d v := by
  intro d
  induction d with
  | zero => intro v x _; rfl
  | succ d ih =>
    intro v x hx
    cases v with
    | own b n => simp only [view, hH b (rep_own hx)]
    | ref b p =>
      simp only [view, hH b (rep_ref hx)]
      cases hb : s.H b with
      | none => rfl
      | some y =>
        cases y with
        | obj cs =>
          simp only [objV, AV.iref.injEq, and_true]
          cases hx with
          | ref _ _ _ cs' g c hH' hμ =>
            obtain ⟨cur, e, q1, q2, q3⟩ := box_obj h hb hμ
            apply List.map_congr_left
            intro c hc
            obtain ⟨i, hi, rfl⟩ := List.mem_iff_getElem.1 hc
            obtain ⟨v, _, _, v3⟩ := q3 i cs[i] (List.getElem?_eq_getElem hi)
            exact ih _ _ v3
        | _ => rfl
    | agg cs =>
      simp only [view, AV.agg.injEq]
      cases hx with
      | agg _ _ vs f hs hv hr =>
        apply List.map_congr_left
        intro c hc
        obtain ⟨i, hi, rfl⟩ := List.mem_iff_getElem.1 hc
        exact ih _ _ (hr i _ (List.getElem?_eq_getElem hi))
    | fn f cs =>
      simp only [view, AV.fn.injEq, true_and]
      cases hx with
      | fn _ _ _ vs f hs hv hr =>
        apply List.map_congr_left
        intro c hc
        obtain ⟨i, hi, rfl⟩ := List.mem_iff_getElem.1 hc
        exact ih _ _ (hr i _ (List.getElem?_eq_getElem hi))
    | _ => rfl
theorem frzs_ext {H H' : Heap} : ∀ (l : List Bid), (∀ b ∈ l, H' b = H b) → frzs H' l = frzs H l
  | [], _ => rfl
  | b :: l, hl => by
    have ih := frzs_ext l (fun b' hb' => hl b' (by simp [hb']))
    have hb := hl b (by simp)
    simp only [frzs, hb, ih]
theorem rowsIn_own : ∀ (l : List AV) (b : Bid), b ∈ rowsIn l → ∃ n, .own b n ∈ l
  | v :: l, b, h => by
    by_cases hv : ∃ b' n, v = .own b' n
    · obtain ⟨b', n, rfl⟩ := hv
      simp only [rowsIn, List.mem_cons] at h
      rcases h with rfl | h
      · exact ⟨n, by simp⟩
      · obtain ⟨m, hm⟩ := rowsIn_own l b h; exact ⟨m, by simp [hm]⟩
    · have : rowsIn (v :: l) = rowsIn l := by cases v <;> first | rfl | exact absurd ⟨_, _, rfl⟩ hv
      rw [this] at h
      obtain ⟨m, hm⟩ := rowsIn_own l b h
      exact ⟨m, by simp [hm]⟩
theorem addO_ext {M : Nat → Prop} {H' : Heap} (hH : ∀ b, s.H b ≠ none → H' b = s.H b) {v : AV} {x : Value} (hx : Rep w M μ s.H v x) (n : Nat) : addO H' n v = addO s.H n v := by
  cases v with
  | eref b i p => simp only [addO, hH b (rep_eref hx)]
  | _ => rfl
theorem foldl_ext {f g : List Bid → AV → List Bid} : ∀ (l : List AV) (acc : List Bid), (∀ v ∈ l, ∀ acc, f acc v = g acc v) → l.foldl f acc = l.foldl g acc
  | [], acc, _ => rfl
  | v :: l, acc, h => by
    simp only [List.foldl_cons]
    rw [h v (by simp), foldl_ext l _ fun v hv => h v (by simp [hv])]
theorem coll_ext (h : Rel Γ s μ a w) {H' : Heap} (hH : ∀ b, s.H b ≠ none → H' b = s.H b) : ∀ (d : Nat) (v : AV) (x : Value) (acc : List Bid), Rep w (forb Γ.Mx μ s.H) μ s.H v x → coll H' d acc v = coll s.H d acc v := by
  intro d
  induction d with
  | zero => intro v x acc _; rfl
  | succ d ih =>
    intro v x acc hx
    cases v with
    | own b n => simp only [coll, addB, hH b (rep_own hx)]
    | ref b p =>
      simp only [coll, addB, hH b (rep_ref hx)]
      split
      · rfl
      · cases hb : s.H b with
        | none => rfl
        | some y =>
          cases y with
          | obj cs =>
            simp only [cellsO]
            cases hx with
            | ref _ _ _ cs' g c hH' hμ =>
              obtain ⟨cur, e, q1, q2, q3⟩ := box_obj h hb hμ
              refine foldl_ext _ _ fun c hc acc => ?_
              obtain ⟨i, hi, rfl⟩ := List.mem_iff_getElem.1 hc
              obtain ⟨v, _, _, v3⟩ := q3 i cs[i] (List.getElem?_eq_getElem hi)
              exact ih _ _ acc v3
          | _ => rfl
    | agg cs =>
      simp only [coll]
      cases hx with
      | agg _ _ vs f hs hv hr =>
        refine foldl_ext _ _ fun c hc acc => ?_
        obtain ⟨i, hi, rfl⟩ := List.mem_iff_getElem.1 hc
        exact ih _ _ acc (hr i _ (List.getElem?_eq_getElem hi))
    | fn f cs =>
      simp only [coll]
      cases hx with
      | fn _ _ _ vs f hs hv hr =>
        refine foldl_ext _ _ fun c hc acc => ?_
        obtain ⟨i, hi, rfl⟩ := List.mem_iff_getElem.1 hc
        exact ih _ _ acc (hr i _ (List.getElem?_eq_getElem hi))
    | ifc t v =>
      cases hx with
      | ifc _ _ _ y hr => exact ih _ _ acc hr
    | _ => rfl
theorem told_ext (h : Rel Γ s μ a w) {H' : Heap} (hH : ∀ b, s.H b ≠ none → H' b = s.H b) (bs : List Bid) : ∀ (d : Nat) (v : AV) (x : Value), Rep w (forb Γ.Mx μ s.H) μ s.H v x → told H' bs d v = told s.H bs d v := by
  intro d
  induction d with
  | zero => intro v x _; rfl
  | succ d ih =>
    intro v x hx
    cases v with
    | own b n => simp only [told, renV, hH b (rep_own hx)]
    | ref b p => rfl
    | agg cs =>
      simp only [told, renV, AV.agg.injEq]
      cases hx with
      | agg _ _ vs f hs hv hr =>
        apply List.map_congr_left
        intro c hc
        obtain ⟨i, hi, rfl⟩ := List.mem_iff_getElem.1 hc
        exact ih _ _ (hr i _ (List.getElem?_eq_getElem hi))
    | fn f cs =>
      simp only [told, renV, AV.fn.injEq, true_and]
      cases hx with
      | fn _ _ _ vs f hs hv hr =>
        apply List.map_congr_left
        intro c hc
        obtain ⟨i, hi, rfl⟩ := List.mem_iff_getElem.1 hc
        exact ih _ _ (hr i _ (List.getElem?_eq_getElem hi))
    | tup cs =>
      simp only [told, renV, AV.tup.injEq]
      cases hx with
      | tup _ _ vs f hs hv hr =>
        apply List.map_congr_left
        intro c hc
        obtain ⟨i, hi, rfl⟩ := List.mem_iff_getElem.1 hc
        exact ih _ _ (hr i _ (List.getElem?_eq_getElem hi))
    | ifc t v =>
      cases hx with
      | ifc _ _ _ y hr =>
        simp only [told, renV]
        congr 1
        exact ih _ _ hr
    | _ => rfl
/-- Boxes that an operation cannot know of make no difference to it. -/
theorem aVal_ext {T : TypeId → Option TI} (h : Rel Γ s μ a w) {H' : Heap} (hH : ∀ b, s.H b ≠ none → H' b = s.H b) (dst : Option Tmp) (op : Op) : aVal T env dst op (eva s.t) H' = aVal T env dst op (eva s.t) s.H := by
  have hE : ∀ x, Rep w (forb Γ.Mx μ s.H) μ s.H (eva s.t x) (a.eval x) := eva_rep h
  have hrows : ∀ (l : List AV), (∀ v ∈ l, ∃ x, Rep w (forb Γ.Mx μ s.H) μ s.H v x) → frzs H' (rowsIn l) = frzs s.H (rowsIn l) := fun l hl => frzs_ext _ fun b hb => by
    obtain ⟨n, hn⟩ := rowsIn_own l b hb
    obtain ⟨x, hx⟩ := hl _ hn
    exact hH b (rep_own hx)
  cases op with
  | buildSlice t n parts =>
    simp only [aVal]
    have h1 : frzs H' (rowsIn ((parts.toList.map fun p => (p.1, eva s.t p.2)).map (·.2))) = frzs s.H (rowsIn ((parts.toList.map fun p => (p.1, eva s.t p.2)).map (·.2))) := hrows _ (fun v hv => by
      simp only [List.map_map, List.mem_map] at hv
      obtain ⟨p, _, rfl⟩ := hv
      exact ⟨_, hE p.2⟩)
    have h2 : ((parts.toList.map fun p => (p.1, eva s.t p.2)).map fun p => (p.1, view H' 2 p.2)) = ((parts.toList.map fun p => (p.1, eva s.t p.2)).map fun p => (p.1, view s.H 2 p.2)) := by
      apply List.map_congr_left
      intro p hp
      obtain ⟨q, _, rfl⟩ := List.mem_map.1 hp
      simp only [view_ext h hH 2 _ _ (hE q.2)]
    cases hT : T t with
    | none => simp [vBuildSlice]
    | some i =>
      cases hT' : T i.etype with
      | none => simp [hT', vBuildSlice]
      | some ie => simp only [Option.bind_some, hT', vBuildSlice, h1, h2]
  | load t x =>
    simp only [aVal]
    have := hE x
    cases hx : eva s.t x with
    | ref b p => rw [hx] at this; cases T t <;> simp only [vLoad, hH b (rep_ref this)]
    | eref b i p => rw [hx] at this; cases T t <;> simp only [vLoad, hH b (rep_eref this)]
    | _ => cases T t <;> rfl
  | store t x y =>
    simp only [aVal]
    have := hE x
    cases hx : eva s.t x with
    | ref b p => rw [hx] at this; cases T t <;> simp only [vStore, hH b (rep_ref this)]
    | eref b i p => rw [hx] at this; cases T t <;> simp only [vStore, hH b (rep_eref this)]
    | _ => cases T t <;> rfl
  | slice t x lo hi mx =>
    simp only [aVal]
    have := hE x
    cases mx with
    | some m => rfl
    | none =>
      simp only [vSliceM, content_ext hH this]
      cases hc : content s.H (eva s.t x) with
      | none => cases T t <;> rfl
      | some kL =>
        obtain ⟨k, L⟩ := kL
        cases T t with
        | none => rfl
        | some i =>
          cases bnd (some 0) (lo.map (eva s.t)) with
          | none => rfl
          | some l =>
            cases bnd ((some (k, L)).map (·.2.length)) (hi.map (eva s.t)) with
            | none => rfl
            | some hh =>
              simp only [vSlice]
              split
              · simp only [cutS]
                split
                · cases hx : eva s.t x with
                  | own b n => rw [hx] at this; simp only [hH b (rep_own this)]
                  | _ => rfl
                · rfl
              · rfl
  | fieldAddr t x f =>
    simp only [aVal]
    cases T t with
    | none => rfl
    | some i =>
      simp only [vFieldAddr]
      cases i.fields[f]? with
      | none => rfl
      | some fd => simp only [fieldO, addO_ext hH (hE x)]
  | indexAddr t x ix =>
    simp only [aVal]
    have := hE x
    cases hT : T t with
    | none => rfl
    | some i =>
      cases hi : eva s.t ix with
      | int k n =>
        cases hx : eva s.t x with
        | own b m => rw [hx] at this; simp only [vIndexAddr, hH b (rep_own this)]
        | sl k L => rfl
        | _ => rw [hx] at this; simp only [vIndexAddr, addO_ext hH this]
      | _ => cases eva s.t x <;> rfl
  | call c =>
    obtain ⟨callee, args, ts⟩ := c
    simp only [aVal]
    cases callee with
    | invoke r m => rfl
    | value f =>
      simp only [vCallC]
      have := hE f
      cases hf : eva s.t f with
      | fn g caps =>
        rw [hf] at this
        simp only [vCall]
        cases env.lookup g with
        | none => rfl
        | some S =>
          have hall : ∀ v ∈ args.toList.map (eva s.t) ++ caps, ∃ x, Rep w (forb Γ.Mx μ s.H) μ s.H v x := by
            intro v hv
            rcases List.mem_append.1 hv with hv | hv
            · obtain ⟨q, _, rfl⟩ := List.mem_map.1 hv; exact ⟨_, hE q⟩
            · generalize a.eval f = fv at this
              cases this with
              | fn _ _ _ vs gg hs hvv hr =>
                obtain ⟨i, hi, rfl⟩ := List.mem_iff_getElem.1 hv
                exact ⟨_, hr i _ (List.getElem?_eq_getElem hi)⟩
          have h2 : (args.toList.map (eva s.t) ++ caps).map (view H' 3) = (args.toList.map (eva s.t) ++ caps).map (view s.H 3) := by
            apply List.map_congr_left
            intro v hv
            obtain ⟨x, hx⟩ := hall v hv
            exact view_ext h hH 3 v x hx
          cases S with
          | p S =>
            simp only [callS, h2]
            cases S ((args.toList.map (eva s.t) ++ caps).map (view s.H 3)) with
            | none => rfl
            | some r => simp only [callR, hrows _ hall]
          | v S =>
            simp only [callS, h2]
            cases S ((args.toList.map (eva s.t) ++ caps).map (view s.H 3)) [] with
            | none => rfl
            | some r => simp only [callV, hrows _ hall]
          | h S =>
            have h4 : ∀ bs, (args.toList.map (eva s.t) ++ caps).map (told H' bs 5) = (args.toList.map (eva s.t) ++ caps).map (told s.H bs 5) := by
              intro bs
              apply List.map_congr_left
              intro v hv
              obtain ⟨x, hx⟩ := hall v hv
              exact told_ext h hH bs 5 v x hx
            have h5 : (args.toList.map (eva s.t) ++ caps).foldl (coll H' 6) [] = (args.toList.map (eva s.t) ++ caps).foldl (coll s.H 6) [] := foldl_ext _ _ fun v hv acc => by
              obtain ⟨x, hx⟩ := hall v hv
              exact coll_ext h hH 6 v x acc hx
            have hbs : OkB s.H ((args.toList.map (eva s.t) ++ caps).foldl (coll s.H 6) []) := foldl_ok (fun acc v => coll_ok 6 acc v) _ _ (OkB.nil _)
            simp only [callS, runH, h4, h5]
            congr 2
            apply List.map_congr_left
            intro b hb
            obtain ⟨y, hy, _⟩ := hbs.hot b hb
            rw [hH b (by rw [hy]; simp), hy]
            cases y with
            | obj cs =>
              simp only [Option.getD_some, renB, Box.obj.injEq]
              rcases h.hb b _ hy with q | ⟨g, c, cur, e, q1, q2, q3⟩ | ⟨q1, e1, sz1, z1, q2, q3⟩
              · cases q
              · apply List.map_congr_left
                intro c hc
                obtain ⟨i, hi, rfl⟩ := List.mem_iff_getElem.1 hc
                obtain ⟨v, _, _, v3⟩ := q3.2 i cs[i] (List.getElem?_eq_getElem hi)
                exact told_ext h hH _ 5 _ _ v3
              · cases q2
            | _ => rfl
      | _ => rfl
    | builtin b =>
      simp only [vCallC]
      generalize args.toList = al
      generalize ts.toList = tl
      unfold vBuiltin
      split
      · rename_i x t
        have hc := content_ext hH (hE x)
        cases T t with
        | none => rfl
        | some i => cases hx : eva s.t x <;> rw [hx] at hc <;> simp only [vLen, hc]
      · rfl
      · rfl
      · rfl
      · rename_i y x t t'
        have hc := content_ext hH (hE x)
        rw [hc]
        split
        · have hy := hE y
          cases hyy : eva s.t y with
          | own b n =>
            rw [hyy] at hy
            cases T t with
            | none => rfl
            | some i =>
              cases hE' : T i.etype with
              | none => simp only [Option.bind_some, hE']; rfl
              | some ie =>
                simp only [Option.bind_some, hE']
                cases content s.H (eva s.t x) with
                | none => rfl
                | some kM => simp only [vAppend, hH b (rep_own hy)]
          | _ =>
            cases T t with
            | none => rfl
            | some i =>
              cases hE' : T i.etype with
              | none => simp only [Option.bind_some, hE']; rfl
              | some ie =>
                simp only [Option.bind_some, hE']
                cases content s.H (eva s.t x) with
                | none => rfl
                | some kM => simp only [vAppend]
        · rfl
      · rfl
      · rfl
  | _ => rfl
end
end Go.Proofs.Ytebflegkdfhoaaa.AE
