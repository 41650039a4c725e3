/-
  A plain machine for the code of functions, and its soundness: part AEm. Conditions: none; every lemma names its own.
-/
import Derived.Test.YtebflegkdfhoaaaAE23
import Derived.RangeFuncRecord
import Derived.RangeFuncLeaves
namespace Go.Proofs.Ytebflegkdfhoaaa.AE
open Go Go.RowKit
set_option linter.unusedVariables false
/-! ## Blocks that are no cells turn; the marks of loops -/
theorem noCells_ne {o : Obj} (ho : noCells o = true) {c : Array Value} {e : TypeId} {f : Nat × Nat} : o ≠ .cells c e f := by
  rintro rfl; cases ho
/-- All cells lie as they lay. -/
def Turned (w w' : World) : Prop := ∀ (g : Nat) (c : Array Value) (e : TypeId) (f : Nat × Nat), w.heap[g]? = some (.cells c e f) → w'.heap[g]? = w.heap[g]?
theorem Turned.putObj {w : World} {l : Nat} {o0 : Obj} (h0 : w.heap[l]? = some o0) (ho : noCells o0 = true) (o : Obj) : Turned w (w.putObj l o) := by
  intro g c e f hg
  refine World.putObj_heap_other fun h => ?_
  subst h
  rw [h0] at hg
  cases hg
  cases ho
theorem Turned.refl (w : World) : Turned w w := fun _ _ _ _ _ => rfl
theorem Turned.trans {a b c : World} (h : Turned a b) (k : Turned b c) : Turned a c := fun g cc e f hg => by
  have h1 := h g cc e f hg
  exact (k g cc e f (h1.trans hg)).trans h1
theorem CellAt.turned {w w' : World} {M : Nat → Prop} {p : Option Addr} {j : Nat} {x : Value} (h : CellAt w M p j x) (ht : Turned w w') : CellAt w' M p j x := by
  obtain ⟨g, off, h1, h2, h3, h4⟩ := h
  refine ⟨g, off, h1, h2, ?_, h4⟩
  have hb : ∃ c e f, w.heap[g]? = some (.cells c e f) := by
    unfold World.cell? at h3
    split at h3
    · rename_i c e f hg; exact ⟨_, _, _, hg⟩
    · cases h3
  obtain ⟨c, e, f, hb⟩ := hb
  rw [World.cell?_of_block (w := w) (ht g c e f hb)]
  exact h3
theorem Rep.turned {w w' : World} {M : Nat → Prop} {μ : Lay} {H : Heap} {v : AV} {x : Value} (h : Rep w M μ H v x) (ht : Turned w w') : Rep w' M μ H v x := by
  induction h with
  | u H v => exact .u _ _
  | int H k n => exact .int _ _ _
  | bool H b => exact .bool _ _
  | str H b => exact .str _ _
  | agg H cs vs f hs hv hr ih => exact .agg _ _ _ f hs hv ih
  | nils H => exact .nils _
  | sl H k L a c f hc hmx hk hv hr ih => exact .sl _ _ _ _ _ f hc hmx hk (fun i j hi hj => (hv i j hi hj).turned ht) ih
  | own H b n e sz L z hH hn => exact .own _ _ _ _ _ _ _ hH hn
  | ownd H b n v hH h1' => exact .ownd _ _ _ _ hH h1'
  | ref H b o cs g c hH hμ => exact .ref _ _ _ _ _ c hH hμ
  | eref H b i o e sz L z g c hH hμ hi => exact .eref _ _ _ _ _ _ _ _ _ c hH hμ hi
  | erefd H b i o v hH h1' => exact .erefd _ _ _ _ _ hH h1'
  | iref H cs o g off f hv hr ih => exact .iref _ _ _ _ _ f (fun j hj => (hv j hj).turned ht) ih
  | nilp H => exact .nilp _
  | fn H f caps vs g hs hv hr ih => exact .fn _ _ _ _ g hs hv ih
  | tup H xs vs g hs hv hr ih => exact .tup _ _ _ g hs hv ih
  | ifc H t v x hr ih => exact .ifc _ _ _ _ ih
  | nili H => exact .nili _
  | ub H b => exact .ub _ _
theorem BoxAt.turned {w w' : World} {M : Nat → Prop} {μ : Lay} {H : Heap} {b : Bid} {x : Box} (h : BoxAt w M μ H b x) (ht : Turned w w') : BoxAt w' M μ H b x := by
  rcases h with h | ⟨g, c, cur, e, h1, h2, h3⟩ | h
  · exact .inl h
  · refine .inr (.inl ⟨g, c, cur, e, h1, (ht g cur e (0, 0) h2).trans h2, ?_⟩)
    cases x with
    | obj cs =>
      refine ⟨h3.1, fun i x hx => ?_⟩
      obtain ⟨v, q1, q2, q3⟩ := h3.2 i x hx
      exact ⟨v, q1, q2, q3.turned ht⟩
    | row e' sz L z =>
      obtain ⟨p1, p2, p3, p4, p5, p6, p7⟩ := h3
      refine ⟨p1, p2, p3, p4, p5, p6, fun i j xs x hi hj => ?_⟩
      obtain ⟨v, q1, q2, q3⟩ := p7 i j xs x hi hj
      exact ⟨v, q1, q2, q3.turned ht⟩
    | dead => exact h3
  · exact .inr (.inr h)
section
variable {Γ : Ctx} {s : St} {μ : Lay} {a : Act} {w : World}
/-- Blocks that are no cells turn (none of them of the world it began in). -/
theorem Rel.turned (h : Rel Γ s μ a w) {w' : World} (ht : Turned w w') (hb : BelowX Γ.w0.heap.size Γ.io w w') {a' : Act} (ha : a'.tmps = a.tmps) (hd : Marks Γ a'.defers w') : Rel Γ s μ a' w' :=
  ⟨hd, by rw [ha]; exact h.hn, h.hx, fun i => by rw [ha]; exact (h.ht i).turned ht, fun b x hx => (h.hb b x hx).turned ht, h.hi, h.hf, h.hw.trans hb, h.hp⟩
/-- A loop's record turns. -/
theorem Rel.turnAt (h : Rel Γ s μ a w) {l : Nat} {r : Loop} (hl : Γ.w0.heap.size ≤ l) (h0 : w.heap[l]? = some (.loop r)) (o : Obj) : Rel Γ s μ a (w.putObj l o) := by
  refine h.turned (Turned.putObj h0 rfl o) ⟨rfl, rfl, rfl, by rw [World.putObj_size]; exact Nat.le_refl _, fun k hk _ => World.putObj_heap_other (by omega)⟩ rfl (h.hd.mono fun D _ hD => World.putObj_heap_other fun e => ?_)
  subst e
  rw [h0] at hD
  cases hD
/-- As above, and the world it began in turns likewise. -/
theorem Rel.turned0 (h : Rel Γ s μ a w) {l : Nat} {o0 : Obj} (hl : l < Γ.w0.heap.size) (h0 : w.heap[l]? = some o0) (ho : noCells o0 = true) (o : Obj) :
    Rel { Γ with w0 := Γ.w0.putObj l o } s μ a (w.putObj l o) := by
  have ht := Turned.putObj h0 ho o
  refine ⟨?_, h.hn, fun g hg => by rw [World.putObj_size]; exact h.hx g hg, fun i => (h.ht i).turned ht, fun b x hx => (h.hb b x hx).turned ht, h.hi, fun b x g c q1 q2 q3 => by rw [World.putObj_size]; exact h.hf b x g c q1 q2 q3, ?_, h.hp⟩
  · obtain ⟨ms, h1, h2, h3⟩ := h.hd
    exact ⟨ms, h1, h2, fun D hD => ⟨by rw [World.putObj_size]; exact (h3 D hD).1, (World.putObj_heap_other (by have := (h3 D hD).1; omega)).trans (h3 D hD).2⟩⟩
  · refine ⟨h.hw.os, h.hw.tape, h.hw.output, by rw [World.putObj_size, World.putObj_size]; exact h.hw.size, fun k hk hn => ?_⟩
    rw [World.putObj_size] at hk
    by_cases e : k = l
    · subst e
      rw [World.putObj_heap_same hk, World.putObj_heap_same (Nat.lt_of_lt_of_le hk h.hw.size)]
    · rw [World.putObj_heap_other e, World.putObj_heap_other e]
      exact h.hw.block k hk hn
/-- A function's end: the marks are taken. -/
theorem leavesM {fn : Func} {R : Ending → World → Prop} {u : FrameMode} (hu : u ≠ .run) (h : Rel Γ s μ a w) (hdf : Γ.df = [])
    (hend : ∀ w', Turned w w' → Rel Γ s μ { a with defers := [] } w' → LeavesIn Fence.wide 0 Γ.P fn a.tmps R [] u w') : LeavesInM Fence.wide 0 Γ.P fn a.tmps R a.defers u w := by
  obtain ⟨ms, h1, h2, h3⟩ := h.hd
  rw [hdf, List.append_nil] at h1
  have key : ∀ (ms : List Nat) (w' : World), ms.Nodup → (∀ D ∈ ms, Γ.w0.heap.size ≤ D ∧ w'.heap[D]? = some (.deferred (some []))) → Turned w w' → Rel Γ s μ { a with defers := [] } w' →
      LeavesInM Fence.wide 0 Γ.P fn a.tmps R (ms.map fun D => (⟨.collected D, #[]⟩ : Deferred)) u w' := by
    intro ms
    induction ms with
    | nil => intro w' _ _ ht hr; exact hend w' ht hr
    | cons D ms ih =>
      intro w' hnd hm ht hr
      obtain ⟨q1, q2⟩ := hm D (List.mem_cons_self)
      have hT := Turned.putObj q2 rfl (.deferred none)
      refine ⟨hu, .inl ⟨D, _, rfl, run_takeDeferred q2, ih _ (List.nodup_cons.1 hnd).2 (fun D' hD' => ?_) (ht.trans hT) (hr.turned hT ⟨rfl, rfl, rfl, by rw [World.putObj_size]; exact Nat.le_refl _, fun k hk _ => World.putObj_heap_other (by omega)⟩ rfl ?_)⟩⟩
      · have hne : D' ≠ D := fun e => (List.nodup_cons.1 hnd).1 (e ▸ hD')
        exact ⟨(hm D' (List.mem_cons_of_mem _ hD')).1, (World.putObj_heap_other hne).trans (hm D' (List.mem_cons_of_mem _ hD')).2⟩
      · show Marks Γ [] _
        rw [← hdf]; exact Marks.nil Γ _
  rw [h1]
  refine key ms w h2 h3 (Turned.refl w) (h.turned (Turned.refl w) (BelowX.refl _ _ _) rfl ?_)
  show Marks Γ [] _
  rw [← hdf]; exact Marks.nil Γ _
end
end Go.Proofs.Ytebflegkdfhoaaa.AE
