/-
  A plain machine for the code of functions, and its soundness: a range over a function that hands over a slice from its end. Conditions: none; every lemma names its own.
-/
import Derived.Test.YtebflegkdfhoaaaAER
import Derived.RangeFuncSeq
namespace Go.Proofs.Ytebflegkdfhoaaa.AE
open Go Go.RowKit
set_option linter.unusedVariables false
/-- What an iterator over a slice from its end does. -/
def BackIter (P : Program) (fid : FuncId) (sz : Nat) : Prop :=
  ∀ (l Bs : Nat) (A : Option Addr) (len cap : Nat) (f : Nat → Nat → Value), len ≤ 100000 → (0 < len → ∃ g off, A = some ⟨g, off, none⟩) → ∀ (J Jx : Nat → World → Prop),
    (∀ k W, J k W → W.cell? ⟨Bs, 0, none⟩ = some (.slice A len cap) ∧ ∀ i j, i < len → j < sz → CellAt W (fun _ => False) A (i * sz + j) (f i j)) →
    (∀ k W, k < len → J k W → YieldAt Fence.wide 0 P l #[.int .i64 ((len - 1 - k : Nat) : Int), .agg ((List.range sz).map (f (len - 1 - k))).toArray] W fun e W' => (e = .returned (.bool true) ∧ J (k + 1) W') ∨ (e = .returned (.bool false) ∧ Jx (k + 1) W')) →
    ∀ W, J 0 W → CallsIn Fence.wide 1 P fid #[.func (.yield l) #[] #[], .pointer (some ⟨Bs, 0, none⟩)] W fun e W' => (∃ v, e = .returned v) ∧ (J len W' ∨ ∃ k, k ≤ len ∧ Jx k W')
section
variable {Γ : Ctx} {s : St} {μ : Lay} {a : Act} {w : World}
/-- What a round is told: the boxes by their numbers, the temporaries as they are told to a callee. -/
theorem round_told (h : Rel Γ s μ a w) {bs : List Bid} (hbs : OkB s.H bs) : Rel ⟨Γ.P, w, MxC Γ s.H μ bs, Γ.n, pinC bs μ, []⟩ ⟨fun i => told s.H bs 5 (s.t i), hB (boxC s.H bs)⟩ (layC bs μ) { a with defers := [] } w := by
  have hm := start_mem h hbs
  exact ⟨Marks.nil ⟨Γ.P, w, MxC Γ s.H μ bs, Γ.n, pinC bs μ, []⟩ _, h.hn, hm.hx, fun i => told_rep h hbs 5 _ _ (h.ht i), hm.hb, hm.hi, hm.hf, hm.hw, hm.hp⟩
/-- How a round may leave the boxes that it was told of. -/
def RoundEnd (H : Heap) (bs : List Bid) (H1 H2 : Heap) : Prop :=
  ∃ ρ up, renOK ρ ∧ boxesOK (hOf (outL ⟨.tup [], up, []⟩)) ρ H1 (outL ⟨.tup [], up, []⟩) ∧ goOns (boxC H bs) up ∧ After H bs (0, 0) up [] (back bs (0, 0) 5) H2
theorem After.two {H H' : Heap} {b0 b1 : Bid} {u0 u1 : Box} {f : AV → AV} (h0 : H' b0 = some (renB f u0)) (h1 : H' b1 = some (renB f u1)) (he : ∀ b, b ≠ b0 → b ≠ b1 → H' b = H b) : After H [b0, b1] (0, 0) [u0, u1] [] f H' := by
  refine ⟨fun i b x hb hx => ?_, fun j x hx => by simp at hx, fun b hb _ => he b (fun e => hb (by simp [e])) (fun e => hb (by simp [e]))⟩
  match i with
  | 0 => simp at hb hx; subst hb; subst hx; exact h0
  | 1 => simp at hb hx; subst hb; subst hx; exact h1
  | n + 2 => simp at hb
/-- A round is over: back to the state it was told from. -/
theorem round_back (h : Rel Γ s μ a w) {bs : List Bid} (hbs : OkB s.H bs) {n' : Nat} {df' : List Deferred} {s' : St} {μ' : Lay} {a' : Act} {w' : World}
    (h' : Rel ⟨Γ.P, w, MxC Γ s.H μ bs, n', pinC bs μ, df'⟩ s' μ' a' w') {H' : Heap} (hE : RoundEnd s.H bs s'.H H') : ∃ μ'', Rel Γ ⟨s.t, H'⟩ μ'' a w' := by
  obtain ⟨ρ, up, h1, h2, hgo, hA⟩ := hE
  obtain ⟨hm, _⟩ := retell h' ρ h1 h2
  obtain ⟨μ'', hr, _⟩ := end_rel h hbs (hr := ⟨.tup [], up, []⟩) hgo rfl ⟨hm.hx, hm.hb, hm.hi, hm.hf, hm.hw, hm.hp⟩ hA
  exact ⟨μ'', hr⟩
/-- What an iterator finds: the variable's box, the slice in it. -/
theorem back_view {t : Nat → AV} {H : Heap} (h : Rel Γ ⟨t, H⟩ μ a w) {bx : Bid} {Bs cb : Nat} (hμ : μ bx = some (Bs, cb)) {c0 : AV} {sz : Nat} {L : List (List AV)} (hH : H bx = some (.obj [c0])) (hc0 : c0 = .sl sz L ∨ c0 = .nils ∧ L = []) :
    ∃ (A : Option Addr) (cap : Nat) (f : Nat → Nat → Value), w.cell? ⟨Bs, 0, none⟩ = some (.slice A L.length cap) ∧ (∀ i j, i < L.length → j < sz → CellAt w (forb Γ.Mx μ H) A (i * sz + j) (f i j)) ∧
      (∀ i j cs x, L[i]? = some cs → cs[j]? = some x → Rep w (forb Γ.Mx μ H) μ noH x (f i j)) ∧ ∀ x ∈ L, x.length = sz := by
  obtain ⟨cur, e, q1, q2, q3⟩ := box_obj h hH hμ
  obtain ⟨v, r1, r2, r3⟩ := q3 0 c0 rfl
  have hc := cell_heap (o := 0) q1
  rw [r1] at hc
  rcases hc0 with rfl | ⟨rfl, rfl⟩
  · cases r3 with
    | sl _ _ _ A c f h1 h2 h3 h4 h5 => exact ⟨A, c, f, hc, h4, h5, h3⟩
  · cases r3
    exact ⟨none, 0, fun _ _ => undef, hc, fun i j hi => absurd hi (by simp), fun i j cs x hi => by simp at hi, by simp⟩
/-- What a round leaves. -/
def backX (Q : X → St → Prop) (t : Nat → AV) (H : Heap) (bs : List Bid) (H2 : Heap) (I2 : Prop) : X → St → Prop
  | .normal, s' => RoundEnd H bs s'.H H2 ∧ I2
  | .exit i, s' => ∃ E, RoundEnd H bs s'.H E ∧ Q (.exit i) ⟨t, E⟩
  | .ret, s' => ∃ E, RoundEnd H bs s'.H E ∧ Q .ret ⟨t, E⟩
  | _, _ => False
def noX : X → St → Prop := fun _ _ => False
end
section
variable {Γ : Ctx} {env : Env} {Q : X → St → Prop} {s : St}
theorem awp_back {g : Operand} {p1 p2 : Tmp} {asg body : Code} {fid : FuncId} {sz : Nat} {bx : Bid} {c0 : AV} {L : List (List AV)} {bs : List Bid} {S : Nat → Heap} {I : Nat → Prop} (hI0 : I 0)
    (hit : BackIter Γ.P fid sz) (hsz : 0 < sz) (hent : entersB Γ.P fid = true) (hg : eva s.t g = .fn fid [.ref bx 0])
    (hc0 : c0 = .sl sz L ∨ c0 = .nils ∧ L = []) (hL : L.length ≤ 100000) (hS0 : S 0 = s.H) (hbx : bx ∉ bs)
    (hS : ∀ k, k ≤ L.length → (S k) bx = some (.obj [c0]) ∧ OkB (S k) bs) (hnd : (noDef asg && noDef body) = true)
    (hround : ∀ k x, I k → k < L.length → L[L.length - 1 - k]? = some x → ∀ (Γ' : Ctx) (l : Nat), Γ'.P = Γ.P → Γ'.n = Γ.n →
      awpR Γ' env l 0 asg (thenX (fun s1 => ∀ Γ'' : Ctx, Γ''.P = Γ.P → Γ''.n = Γ.n → awpR Γ'' env l 0 body (backX Q s.t (S k) bs (S (k + 1)) (I (k + 1))) s1) noX)
        ⟨tput (tput (fun i => told (S k) bs 5 (s.t i)) (some p1) (.int .i64 ((L.length - 1 - k : Nat) : Int))) (some p2) (.agg x), hB (boxC (S k) bs)⟩)
    (hend : I L.length → Q .normal ⟨s.t, S L.length⟩) : awp Γ env (.rangeFunc g #[p1, p2] asg body) Q s := by
  intro henv hok μ a w hR
  simp only [codeOK, Bool.and_eq_true, List.all_cons, List.all_nil, decide_eq_true_eq] at hok
  obtain ⟨⟨⟨hp1, hp2, _⟩, hokA⟩, hokB⟩ := hok
  simp only [Bool.and_eq_true] at hnd
  refine (wpIn_wide (n := 1)).1 (wpIn_rangeFunc fun fn _ => ?_)
  have hgv := eva_rep hR g
  rw [hg] at hgv
  generalize hev : a.eval g = gv at hgv
  obtain ⟨Bs, rfl⟩ : ∃ Bs, gv = .func (.func fid) #[] #[.pointer (some ⟨Bs, 0, none⟩)] := by
    cases hgv with
    | fn _ _ _ vs gg hs hv hr =>
      have h0 := hr 0 _ rfl
      have hv0 := hv 0 (by simp)
      generalize gg 0 = y at h0 hv0
      cases h0 with
      | ref _ _ _ cs g' c hH hμ =>
        refine ⟨g', ?_⟩
        congr 1
        apply Array.ext
        · simpa using hs
        · intro i h1 h2
          simp only [List.length_cons, List.length_nil] at hs
          obtain rfl : i = 0 := by omega
          rw [Array.getElem?_eq_getElem h1] at hv0
          simpa using hv0
  obtain ⟨w1, hw1⟩ : ∃ x, x = (w.alloc (.deferred (some []))).alloc (.loop { state := .ready, pending := none, fn, tmps := a.tmps, params := #[p1, p2], assign := asg, body, defers := w.heap.size }) := ⟨_, rfl⟩
  obtain ⟨r0, hr0⟩ : ∃ x : Loop, x = { state := .ready, pending := none, fn, tmps := a.tmps, params := #[p1, p2], assign := asg, body, defers := w.heap.size } := ⟨_, rfl⟩
  obtain ⟨l, hl⟩ : ∃ x, x = w.heap.size + 1 := ⟨_, rfl⟩
  have hbel : Below w.heap.size w w1 := by rw [hw1]; exact ((Below.refl _ w).alloc (Nat.le_refl _) _).alloc (by simp) _
  have hl1 : w1.heap[l]? = some (.loop r0) := by rw [hw1, hl, hr0]; have := World.alloc_heap_new (w.alloc (.deferred (some []))) (.loop { state := .ready, pending := none, fn, tmps := a.tmps, params := #[p1, p2], assign := asg, body, defers := w.heap.size }); rw [World.size_alloc] at this; exact this
  have hD1 : w1.heap[w.heap.size]? = some (.deferred (some [])) := by rw [hw1, ((Below.refl _ (w.alloc (.deferred (some [])))).alloc (Nat.le_refl _) _).block w.heap.size (by rw [World.size_alloc]; omega)]; exact World.alloc_heap_new w _
  have hlw : Γ.w0.heap.size ≤ l := by have := hR.hw.size; omega
  obtain ⟨a1, ha1⟩ : ∃ x : Act, x = { a with defers := { target := .collected w.heap.size, args := #[] } :: a.defers } := ⟨_, rfl⟩
  have hat : a1.tmps = a.tmps := by rw [ha1]
  have hR1 : Rel Γ s μ a1 w1 := by
    refine (hR.grow hbel).turned (Turned.refl _) (BelowX.refl _ _ _) hat ?_
    obtain ⟨ms, q1, q2, q3⟩ := hR.hd
    refine ⟨w.heap.size :: ms, by rw [ha1]; simp [q1], List.nodup_cons.2 ⟨fun hm => ?_, q2⟩, fun D hD => ?_⟩
    · have := (Array.getElem?_eq_some_iff.1 (q3 _ hm).2).1
      omega
    · rcases List.mem_cons.1 hD with rfl | hD
      · exact ⟨hR.hw.size, hD1⟩
      · have := (Array.getElem?_eq_some_iff.1 (q3 _ hD).2).1
        exact ⟨(q3 D hD).1, (hbel.block D this).trans (q3 D hD).2⟩
  have hev1 : a1.eval g = .func (.func fid) #[] #[.pointer (some ⟨Bs, 0, none⟩)] := by
    rw [← hev, ha1]
    cases g <;> rfl
  have hμx : ∀ {H : Heap} {μ' : Lay} {W : World}, Rel Γ ⟨s.t, H⟩ μ' a1 W → ∃ cb, μ' bx = some (Bs, cb) := by
    intro H μ' W hr
    have h1 := eva_rep hr g
    rw [hev1] at h1
    simp only at h1
    rw [hg] at h1
    cases h1 with
    | fn _ _ _ vs gg hs hv hrr =>
      have h0 := hrr 0 _ rfl
      have hv0 := hv 0 (by simp)
      simp at hv0
      rw [← hv0] at h0
      cases h0 with
      | ref _ _ _ cs g' c hH hμ => exact ⟨c, hμ⟩
  have hR10 : Rel Γ ⟨s.t, S 0⟩ μ a1 w1 := by rw [hS0]; exact hR1
  obtain ⟨cb, hμb⟩ := hμx hR10
  obtain ⟨A, cap, f, v1, v2, v3, v4⟩ := back_view hR10 hμb (hS 0 (Nat.zero_le _)).1 hc0
  -- what stays known of the slice
  obtain ⟨Has, hHas⟩ : ∃ Has : World → Prop, Has = fun W => W.cell? ⟨Bs, 0, none⟩ = some (.slice A L.length cap) ∧ ∀ i j, i < L.length → j < sz → CellAt W (fun _ => False) A (i * sz + j) (f i j) := ⟨_, rfl⟩
  have hHas1 : Has w1 := by
    rw [hHas]
    refine ⟨v1, fun i j hi hj => ?_⟩
    obtain ⟨g', off, e1, e2, e3, e4⟩ := v2 i j hi hj
    exact ⟨g', off, e1, id, e3, e4⟩
  -- seen from a world's own side
  have seen : ∀ {H : Heap} {μ' : Lay} {W : World}, Rel Γ ⟨s.t, H⟩ μ' a1 W → H bx = some (.obj [c0]) → Has W →
      (∀ i j, i < L.length → j < sz → CellAt W (forb Γ.Mx μ' H) A (i * sz + j) (f i j)) ∧ (∀ i j cs x, L[i]? = some cs → cs[j]? = some x → Rep W (forb Γ.Mx μ' H) μ' noH x (f i j)) := by
    intro H μ' W hr hH hh
    rw [hHas] at hh
    obtain ⟨cb', hμ'⟩ := hμx hr
    obtain ⟨A', cap', f', u1, u2, u3, u4⟩ := back_view hr hμ' hH hc0
    rw [hh.1] at u1
    cases u1
    have hf : ∀ i j, i < L.length → j < sz → f' i j = f i j := by
      intro i j hi hj
      obtain ⟨g1, o1, e1, _, e3, _⟩ := u2 i j hi hj
      obtain ⟨g2, o2, d1, _, d3, _⟩ := hh.2 i j hi hj
      rw [e1] at d1
      cases d1
      rw [e3] at d3
      exact Option.some.inj d3
    refine ⟨fun i j hi hj => hf i j hi hj ▸ u2 i j hi hj, fun i j cs x hi hj => ?_⟩
    have h1 := (List.getElem?_eq_some_iff.1 hi).1
    have h2 := (List.getElem?_eq_some_iff.1 hj).1
    rw [u4 cs (List.mem_of_getElem? hi)] at h2
    rw [← hf i j h1 h2]
    exact u3 i j cs x hi hj
  have hdom : 0 < L.length → ∃ g off, A = some ⟨g, off, none⟩ := by
    intro h1
    obtain ⟨g', off, e1, _⟩ := v2 0 0 h1 hsz
    exact ⟨g', off, e1⟩
  -- the rounds' word
  let J : Nat → World → Prop := fun k W => (k ≤ L.length ∧ I k) ∧ (∃ μ', Rel Γ ⟨s.t, S k⟩ μ' a1 W) ∧ W.heap[l]? = some (.loop r0) ∧ Has W
  let Jx : Nat → World → Prop := fun k W => ∃ (E : Heap) (μ' : Lay) (c : Code) (x : X), Rel Γ ⟨s.t, E⟩ μ' a1 W ∧ W.heap[l]? = some (.loop { r0 with state := .done, pending := some c }) ∧ Q x ⟨s.t, E⟩ ∧ ((∃ i, c = .exit i ∧ x = .exit i) ∨ (c = .ret ∧ x = .ret))
  have hcall : CallsIn Fence.wide 1 Γ.P fid #[.func (.yield l) #[] #[], .pointer (some ⟨Bs, 0, none⟩)] w1 fun e W' => (∃ v, e = .returned v) ∧ (J L.length W' ∨ ∃ k, k ≤ L.length ∧ Jx k W') := by
    refine hit l Bs A L.length cap f hL hdom J Jx (fun k W hJ => ?_) (fun k W hk hJ => ?_) w1 ⟨⟨Nat.zero_le _, hI0⟩, ⟨μ, hR10⟩, hl1, hHas1⟩
    · have := hJ.2.2.2
      rw [hHas] at this
      exact this
    · obtain ⟨⟨hkl, hIk⟩, ⟨μk, hRk⟩, hlk, hHk⟩ := hJ
      obtain ⟨hHx, hOk⟩ := hS k hkl
      obtain ⟨s1, s2⟩ := seen hRk hHx hHk
      have hlt : L.length - 1 - k < L.length := by omega
      have hx := List.getElem?_eq_getElem hlt
      generalize hxd : L[L.length - 1 - k] = x at hx
      have hxl : x.length = sz := v4 x (List.mem_of_getElem? hx)
      refine ⟨_, _, _, _, run_yield hlk (by rw [hr0]; rfl), roundIn_of_wpIn trivial ?_⟩
      have hrt := round_told hRk hOk
      have hrp := (hrt.put (d := some p1) (fun t ht => by cases ht; exact hp1) (.int _ .i64 ((L.length - 1 - k : Nat) : Int))).put (d := some p2) (fun t ht => by cases ht; exact hp2) (v := .agg x) (x := .agg ((List.range sz).map (f (L.length - 1 - k))).toArray)
        (.agg _ _ _ (f (L.length - 1 - k)) (by simp [hxl]) (fun i hi => by
          obtain ⟨_, _, _, _, _, h4⟩ := s1 _ i hlt (by omega)
          exact ⟨by simp [← hxl, hi], h4⟩) (fun i c hc => ((s2 _ i x c hx hc).mono (fun g _ hg => ⟨fun hc => hg (forbC hOk hc), rfl⟩) (HLe.noH _) (fun b hb => absurd rfl hb) : _)))
      have hw := hround k x hIk hk hx ⟨Γ.P, W, MxC Γ (S k) μk bs, Γ.n, pinC bs μk, []⟩ l rfl rfl henv hokA hnd.1 _ _ W hrp
      have hact : ({ tmps := (r0.params.zip #[.int .i64 ((L.length - 1 - k : Nat) : Int), .agg ((List.range sz).map (f (L.length - 1 - k))).toArray]).foldl (fun tmps (t, a) => tmps.setIfInBounds t a) r0.tmps, defers := [] } : Act) =
          (({ a1 with defers := [] } : Act).put (some p1) (.int .i64 ((L.length - 1 - k : Nat) : Int))).put (some p2) (.agg ((List.range sz).map (f (L.length - 1 - k))).toArray) := by
        rw [hr0, ha1]; simp [Act.put]
      rw [hact]
      rw [show r0.assign = asg by rw [hr0], show r0.body = body by rw [hr0]]
      have hlW : l < W.heap.size := (Array.getElem?_eq_some_iff.1 hlk).1
      have hnio : ¬ ∃ i c, pinC bs μk i = some (l, c) := by
        rintro ⟨i, c, hp⟩
        obtain ⟨_, _, _, _, _, _, _, hfb⟩ := lt_of_pin hRk hOk hp
        exact hRk.mark_free hlw hlk rfl hfb
      -- blocks that a round leaves as they are
      have same : ∀ {W' : World} {Γ' : Ctx} {s' μ' a' W2}, Rel Γ' s' μ' a' W2 → Γ'.w0 = W' → Γ'.pin = pinC bs μk → W'.heap.size = W.heap.size → (∀ g, g ≠ l → W'.heap[g]? = W.heap[g]?) → ∀ g, g < W.heap.size → g ≠ l → ¬ forb Γ.Mx μk (S k) g → W2.heap[g]? = W.heap[g]? := by
        intro W' Γ' s' μ' a' W2 h' hw0 hpin hsz' hoth g hg hgl hgf
        have := h'.hw.block g (by rw [hw0, hsz']; exact hg) (fun hio => ?_)
        · rw [this, hw0]; exact hoth g hgl
        · obtain ⟨i, c, hp⟩ := hio
          rw [hpin] at hp
          obtain ⟨_, _, _, _, _, _, _, hfb⟩ := lt_of_pin hRk hOk hp
          exact hgf hfb
      refine Code.wpIn_mono (fun e a2 w2 he => ?_) hw
      cases e with
      | normal =>
        obtain ⟨s3, μ3, hR3, hK⟩ := he
        have hl2 : w2.heap[l]? = some (.loop r0) := (hR3.hw.block l hlW hnio).trans hlk
        refine ⟨_, run_beginRound hl2 (by rw [hr0]), ?_⟩
        have hR4 := hR3.turned0 hlW hl2 rfl (.loop { r0 with state := .busy })
        refine Code.wpIn_mono (fun e a4 w4 he => ?_) (hK { (⟨Γ.P, W, MxC Γ (S k) μk bs, Γ.n, pinC bs μk, []⟩ : Ctx) with w0 := W.putObj l (.loop { r0 with state := .busy }) } rfl rfl henv hokB hnd.2 _ _ _ hR4)
        have fin : ∀ (s5 : St) (μ5 : Lay) (o : Loop), Rel { (⟨Γ.P, W, MxC Γ (S k) μk bs, Γ.n, pinC bs μk, []⟩ : Ctx) with w0 := W.putObj l (.loop { r0 with state := .busy }) } s5 μ5 a4 w4 → ∀ E, RoundEnd (S k) bs s5.H E →
            w4.heap[l]? = some (.loop { r0 with state := .busy }) ∧ (∃ μ', Rel Γ ⟨s.t, E⟩ μ' a1 (w4.putObj l (.loop o))) ∧ (w4.putObj l (.loop o)).heap[l]? = some (.loop o) ∧ Has (w4.putObj l (.loop o)) := by
          intro s5 μ5 o hR5 E hE
          have hl4 : w4.heap[l]? = some (.loop { r0 with state := .busy }) := (hR5.hw.block l (by rw [World.putObj_size]; exact hlW) hnio).trans (World.putObj_heap_same hlW)
          have hl4s : l < w4.heap.size := (Array.getElem?_eq_some_iff.1 hl4).1
          have hR6 := hR5.turned0 (by rw [World.putObj_size]; exact hlW) hl4 rfl (.loop o)
          have hRk2 := (hRk.turnAt hlw hlk (.loop { r0 with state := .busy })).turnAt hlw (World.putObj_heap_same hlW) (.loop o)
          refine ⟨hl4, round_back hRk2 hOk hR6 hE, World.putObj_heap_same hl4s, ?_⟩
          have hsm := fun g hg hgl hgf => same hR6 rfl rfl (by rw [World.putObj_size, World.putObj_size]) (fun g hgl => (World.putObj_heap_other hgl).trans (World.putObj_heap_other hgl)) g hg hgl hgf
          obtain ⟨cbk, hμk⟩ := hμx hRk
          rw [hHas] at hHk ⊢
          refine ⟨?_, fun i j hi hj => ?_⟩
          · obtain ⟨cur, e, q1, _⟩ := box_obj hRk hHx hμk
            have hBl : Bs ≠ l := fun e => by subst e; rw [hlk] at q1; cases q1
            have hBf : ¬ forb Γ.Mx μk (S k) Bs ∨ w4.heap[Bs]? = W.heap[Bs]? := by
              right
              have := hR5.hw.block Bs (by rw [World.putObj_size]; exact (Array.getElem?_eq_some_iff.1 q1).1) (fun hio => ?_)
              · exact this.trans (World.putObj_heap_other hBl)
              · obtain ⟨i, c, hp⟩ := hio
                obtain ⟨b, y, p1', p2', p3', p4', _⟩ := lt_of_pin hRk hOk hp
                have := hRk.hi b bx y _ Bs c cbk p2' hHx p3' rfl p4' hμk
                subst this
                exact hbx (List.mem_of_getElem? p1')
            have hB4 : (w4.putObj l (.loop o)).heap[Bs]? = W.heap[Bs]? := by
              rw [World.putObj_heap_other hBl]
              rcases hBf with h | h
              · rw [← hsm Bs (Array.getElem?_eq_some_iff.1 q1).1 hBl h, World.putObj_heap_other hBl]
              · exact h
            rw [World.cell?_of_block (w := W) hB4]
            exact hHk.1
          · obtain ⟨g', off, e1, e2, e3, e4⟩ := s1 i j hi hj
            have hgs := World.block_lt_of_cell? W _ e3
            have hgl : g' ≠ l := fun e => by subst e; simp [World.cell?, hlk] at e3
            exact ⟨g', off, e1, id, by rw [World.cell?_of_block (w := W) (hsm g' hgs hgl e2)]; exact e3, e4⟩
        cases e with
        | normal =>
          obtain ⟨s5, μ5, hR5, hq, hI2⟩ := he
          obtain ⟨f1, f2, f3, f4⟩ := fin s5 μ5 r0 hR5 _ hq
          have hend' := run_endRound (P := Γ.P) none f1
          refine ⟨_, _, hend', .inl ⟨rfl, ⟨by omega, hI2⟩, ?_, ?_, ?_⟩⟩
          all_goals (simp only [Option.isNone_none, if_true])
          all_goals (have hrr : ({ r0 with state := .ready, pending := none } : Loop) = r0 := by rw [hr0])
          all_goals (simp only [hrr])
          · exact f2
          · exact f3
          · exact f4
        | exit i =>
          obtain ⟨s5, μ5, hR5, E, hq, hqq⟩ := he
          obtain ⟨f1, f2, f3, f4⟩ := fin s5 μ5 { r0 with state := .done, pending := some (.exit i) } hR5 _ hq
          obtain ⟨μ', f2⟩ := f2
          exact ⟨_, _, run_endRound (P := Γ.P) (some (.exit i)) f1, .inr ⟨rfl, E, μ', _, _, f2, f3, hqq, .inl ⟨i, rfl, rfl⟩⟩⟩
        | ret =>
          obtain ⟨s5, μ5, hR5, E, hq, hqq⟩ := he
          obtain ⟨f1, f2, f3, f4⟩ := fin s5 μ5 { r0 with state := .done, pending := some .ret } hR5 _ hq
          obtain ⟨μ', f2⟩ := f2
          exact ⟨_, _, run_endRound (P := Γ.P) (some .ret) f1, .inr ⟨rfl, E, μ', _, _, f2, f3, hqq, .inr ⟨rfl, rfl⟩⟩⟩
        | panic ch => obtain ⟨_, _, _, _, _, _, _, hq⟩ := he; exact hq.elim
        | goto _ => exact he.elim
        | outgrown => exact he.elim
      | exit i => obtain ⟨_, _, _, hq⟩ := he; exact hq.elim
      | ret => obtain ⟨_, _, _, hq⟩ := he; exact hq.elim
      | panic ch => obtain ⟨_, _, _, _, _, _, _, hq⟩ := he; exact hq.elim
      | goto _ => exact he.elim
      | outgrown => exact he.elim
  refine ⟨l, [{ target := .collected w.heap.size, args := #[] }], w1, { target := .fn (.func fid) #[.pointer (some ⟨Bs, 0, none⟩)], args := #[.func (.yield l) #[] #[]] }, w1, fid, #[.func (.yield l) #[] #[], .pointer (some ⟨Bs, 0, none⟩)], w1, ?_, ?_, fun _ _ => trivial, ?_, fun h => (by cases h), ?_⟩
  · rw [hw1, hl]; exact run_enterLoop_outer fn a.tmps #[p1, p2] asg body
  · simp only [resolve, hev, Deferred.ofValue, Sem.run_pure, Array.empty_append, List.map_toArray, List.map_cons, List.map_nil]
    rfl
  · simp only [invoke]
    exact run_callFunc hent _
  · refine callsIn_wide.2 (Calls.mono (callsIn_wide.1 hcall) ?_)
    rintro e W' ⟨⟨v, rfl⟩, hJ⟩
    have hat1 : ({ a with defers := [{ target := .collected w.heap.size, args := #[] }] ++ a.defers } : Act) = a1 := by rw [ha1]; rfl
    rw [hat1]
    rcases hJ with ⟨⟨_, hIf⟩, ⟨μ', hRf⟩, hlf, _⟩ | ⟨k, _, E, μ', c, x, hRf, hlf, hQx, hcx⟩
    · exact ⟨_, _, run_endLoop hlf (by rw [hr0]; simp), by rw [show r0.pending = none by rw [hr0]]; exact ⟨_, μ', hRf.turnAt hlw hlf _, hend hIf⟩⟩
    · refine ⟨_, _, run_endLoop hlf (by simp), ?_⟩
      have hRf' := hRf.turnAt hlw hlf (.loop { { r0 with state := .done, pending := some c } with state := .exhausted })
      rcases hcx with ⟨i, rfl, rfl⟩ | ⟨rfl, rfl⟩
      · exact wpIn_exit ⟨_, μ', hRf', hQx⟩
      · exact wpIn_ret ⟨_, μ', hRf', hQx⟩
end
end Go.Proofs.Ytebflegkdfhoaaa.AE
