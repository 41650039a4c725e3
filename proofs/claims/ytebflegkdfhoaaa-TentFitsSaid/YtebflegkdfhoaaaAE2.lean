/-
  A plain machine for the code of functions, and its soundness: part AE2. Conditions: none; every lemma names its own.
-/
import Derived.Test.YtebflegkdfhoaaaAE
namespace Go.Proofs.Ytebflegkdfhoaaa.AE
open Go Go.RowKit
set_option linter.unusedVariables false

/-! ## What is to be known of a type -/
def isAggD : TypeDesc → Bool
  | .struct _ | .array _ _ => true
  | _ => false
def aggT (P : Program) (t : TypeId) : Bool := ((P.underlying t).map isAggD).getD false
def fieldsD (P : Program) : TypeDesc → List (Nat × Nat × Bool)
  | .struct fs => fs.toList.map fun f => (f.offset, P.cellsOf f.type, aggT P f.type)
  | _ => []
def elemD : TypeDesc → Option TypeId
  | .slice e | .array _ e => some e
  | _ => none
def okD (P : Program) : TypeDesc → Bool
  | .struct fs => fs.toList.all fun f => (P.info? f.type).isSome && (P.underlying f.type).isSome
  | .slice e | .array _ e => (P.info? e).isSome && (P.underlying e).isSome
  | _ => true
/-- Do the fields follow each other without a gap? -/
def tilesK (P : Program) (off total : Nat) : List Field → Bool
  | [] => off == total
  | f :: fs => f.offset == off && f.name != "_" && tilesK P (off + P.cellsOf f.type) total fs
def catK : List (Option (List Kd)) → Option (List Kd)
  | [] => some []
  | some l :: r => match catK r with
    | some m => some (l ++ m)
    | none => none
  | none :: _ => none
/-- The cells of a plain type. -/
def kindsAt (P : Program) : Nat → TypeId → Option (List Kd)
  | 0, _ => none
  | d + 1, t => if (P.info? t).isNone then none else match P.underlying t with
    | some (.int k) => if P.cellsOf t = 1 then some [.int k] else none
    | some .bool => if P.cellsOf t = 1 then some [.bool] else none
    | some .string => if P.cellsOf t = 1 then some [.str] else none
    | some (.array n e) => if P.cellsOf t = n * P.cellsOf e ∧ n ≠ 0 then catK (List.replicate n (kindsAt P d e)) else none
    | some (.struct fs) => if !P.stoodInHeld t && tilesK P 0 (P.cellsOf t) fs.toList then catK (fs.toList.map fun f => kindsAt P d f.type) else none
    | _ => none
def TI.of (P : Program) (t : TypeId) : Option TI :=
  match P.info? t, P.underlying t with
  | some i, some d => if okD P d then some {
      size := i.size
      agg := isAggD d
      zero := match i.zero with | some z => if z.cells.all (·.oneCell') then z.cells.toList.map cAV else [] | none => []
      fields := fieldsD P d
      len := match d with | .array n _ => n | _ => 0
      esize := match elemD d with | some e => P.cellsOf e | none => 0
      etype := (elemD d).getD 0
      ebytes := match elemD d with | some e => ((P.info? e).map (·.bytes)).getD 0 | none => 0
      kind := match d with | .int k => some k | _ => none
      arr := match d with | .array _ _ => true | _ => false
      slc := match d with | .slice _ => true | _ => false
      ptr := match d with | .pointer _ => true | _ => false
      kinds := if P.eqGuardType P.depth t then none else kindsAt P 6 t } else none
  | _, _ => none

/-! ## Worlds and plain values -/
/-- The cell j behind an address, in memory that is not told to change. -/
def CellAt (w : World) (M : Nat → Prop) (a : Option Addr) (j : Nat) (x : Value) : Prop :=
  ∃ g off, a = some ⟨g, off, none⟩ ∧ ¬ M g ∧ w.cell? ⟨g, off + j, none⟩ = some x ∧ x.oneCell' = true
/-- Where the boxes lie: block and capacity; none: nowhere (a nil slice). -/
abbrev Lay := Bid → Option (Nat × Nat)
def sliceV (p : Option (Nat × Nat)) (n : Nat) : Value := match p with
  | some (g, c) => .slice (some ⟨g, 0, none⟩) n c
  | none => .slice none 0 0
inductive Rep (w : World) (M : Nat → Prop) (μ : Lay) : Heap → AV → Value → Prop
  | u (H v) : Rep w M μ H .u v
  | int (H k n) : Rep w M μ H (.int k n) (.int k n)
  | bool (H b) : Rep w M μ H (.bool b) (.bool b)
  | str (H b) : Rep w M μ H (.str b) (.string b)
  | agg (H cs) (vs : Array Value) (f : Nat → Value) (hs : vs.size = cs.length) (hv : ∀ i, i < cs.length → vs[i]? = some (f i) ∧ (f i).oneCell' = true)
      (hr : ∀ i c, cs[i]? = some c → Rep w M μ H c (f i)) : Rep w M μ H (.agg cs) (.agg vs)
  | nils (H) : Rep w M μ H .nils (.slice none 0 0)
  | sl (H k L a c) (f : Nat → Nat → Value) (hc : L.length ≤ c) (hm : c ≤ maxLen) (hk : ∀ x ∈ L, x.length = k)
      (hv : ∀ i j, i < L.length → j < k → CellAt w M a (i * k + j) (f i j))
      (hr : ∀ i j cs x, L[i]? = some cs → cs[j]? = some x → Rep w M μ noH x (f i j)) : Rep w M μ H (.sl k L) (.slice a L.length c)
  | own (H b n e sz L z) (hH : H b = some (.row e sz L z)) (hn : n ≤ L.length) : Rep w M μ H (.own b n) (sliceV (μ b) n)
  | ownd (H b n v) (hH : H b = some .dead) (h1 : v.oneCell' = true) : Rep w M μ H (.own b n) v
  | ref (H b o cs g c) (hH : H b = some (.obj cs)) (hμ : μ b = some (g, c)) : Rep w M μ H (.ref b o) (.pointer (some ⟨g, o, none⟩))
  | eref (H b i o e sz L z g c) (hH : H b = some (.row e sz L z)) (hμ : μ b = some (g, c)) (hi : i < L.length) : Rep w M μ H (.eref b i o) (.pointer (some ⟨g, i * sz + o, none⟩))
  | erefd (H b i o v) (hH : H b = some .dead) (h1 : v.oneCell' = true) : Rep w M μ H (.eref b i o) v
  | iref (H cs o g off) (f : Nat → Value) (hv : ∀ j, j < cs.length → CellAt w M (some ⟨g, off, none⟩) j (f j))
      (hr : ∀ j x, cs[j]? = some x → Rep w M μ noH x (f j)) : Rep w M μ H (.iref cs o) (.pointer (some ⟨g, off + o, none⟩))
  | nilp (H) : Rep w M μ H .nilp (.pointer none)
  | fn (H f caps) (vs : Array Value) (g : Nat → Value) (hs : vs.size = caps.length) (hv : ∀ i, i < caps.length → vs[i]? = some (g i))
      (hr : ∀ i c, caps[i]? = some c → Rep w M μ H c (g i)) : Rep w M μ H (.fn f caps) (.func (.func f) #[] vs)
  | tup (H xs) (vs : Array Value) (g : Nat → Value) (hs : vs.size = xs.length) (hv : ∀ i, i < xs.length → vs[i]? = some (g i))
      (hr : ∀ i c, xs[i]? = some c → Rep w M μ H c (g i)) : Rep w M μ H (.tup xs) (.tuple vs)
  | ifc (H t v x) (hr : Rep w M μ H v x) : Rep w M μ H (.ifc t v) (.iface t x)
  | nili (H) : Rep w M μ H .nili .nilIface
  | ub (H b) : Rep w M μ H .ub (.bool b)

/-- How boxes may go on: rows keep their length, or are given up. -/
def HLe (H H' : Heap) : Prop := ∀ b, match H b with
  | none => True
  | some (.obj _) => ∃ cs, H' b = some (.obj cs)
  | some (.row e sz L _) => (∃ L' z, H' b = some (.row e sz L' z) ∧ L'.length = L.length) ∨ H' b = some .dead
  | some .dead => H' b = some .dead
theorem HLe.refl (H : Heap) : HLe H H := by
  intro b
  cases h : H b with
  | none => trivial
  | some x => cases x <;> simp_all
theorem HLe.noH (H : Heap) : HLe noH H := fun b => trivial
theorem CellAt.mono {w w' : World} {M M' : Nat → Prop} {a : Option Addr} {j : Nat} {x : Value} (h : CellAt w M a j x)
    (hm : ∀ g, g < w.heap.size → ¬ M g → ¬ M' g ∧ w'.heap[g]? = w.heap[g]?) : CellAt w' M' a j x := by
  obtain ⟨g, off, h1, h2, h3, h4⟩ := h
  have hg := World.block_lt_of_cell? w _ h3
  obtain ⟨q1, q2⟩ := hm g hg h2
  exact ⟨g, off, h1, q1, by rw [World.cell?_of_block (w := w) q2]; exact h3, h4⟩
theorem Rep.mono {w w' : World} {M M' : Nat → Prop} {μ μ' : Lay} {H : Heap} {v : AV} {x : Value} (h : Rep w M μ H v x)
    (hm : ∀ g, g < w.heap.size → ¬ M g → ¬ M' g ∧ w'.heap[g]? = w.heap[g]?) :
    ∀ {H' : Heap}, HLe H H' → (∀ b, H b ≠ none → μ' b = μ b) → Rep w' M' μ' H' v x := by
  induction h with
  | u H v => intro H' _ _; exact .u _ _
  | int H k n => intro H' _ _; exact .int _ _ _
  | bool H b => intro H' _ _; exact .bool _ _
  | str H b => intro H' _ _; exact .str _ _
  | agg H cs vs f hs hv hr ih => intro H' h1 h2; exact .agg _ _ _ f hs hv fun i c hc => ih i c hc h1 h2
  | nils H => intro H' _ _; exact .nils _
  | sl H k L a c f hc hmx hk hv hr ih => intro H' h1 h2; exact .sl _ _ _ _ _ f hc hmx hk (fun i j hi hj => (hv i j hi hj).mono hm) fun i j cs x hi hj => ih i j cs x hi hj (HLe.refl _) (fun b hb => absurd rfl hb)
  | own H b n e sz L z hH hn =>
    intro H' h1 h2
    have hb := h1 b
    rw [hH] at hb
    rw [← h2 b (by rw [hH]; simp)]
    rcases hb with ⟨L', z', hb, hl⟩ | hb
    · exact .own _ _ _ _ _ _ _ hb (by omega)
    · exact .ownd _ _ _ _ hb (by cases hq : μ' b <;> rfl)
  | ownd H b n v hH h1' => intro H' h1 h2; have hb := h1 b; rw [hH] at hb; exact .ownd _ _ _ _ hb h1'
  | ref H b o cs g c hH hμ =>
    intro H' h1 h2
    have hb := h1 b
    rw [hH] at hb
    obtain ⟨cs', hb⟩ := hb
    exact .ref _ _ _ _ _ c hb (by rw [h2 b (by rw [hH]; simp)]; exact hμ)
  | eref H b i o e sz L z g c hH hμ hi =>
    intro H' h1 h2
    have hb := h1 b
    rw [hH] at hb
    rcases hb with ⟨L', z', hb, hl⟩ | hb
    · exact .eref _ _ _ _ _ _ _ _ _ c hb (by rw [h2 b (by rw [hH]; simp)]; exact hμ) (by omega)
    · exact .erefd _ _ _ _ _ hb rfl
  | erefd H b i o v hH h1' => intro H' h1 h2; have hb := h1 b; rw [hH] at hb; exact .erefd _ _ _ _ _ hb h1'
  | iref H cs o g off f hv hr ih => intro H' h1 h2; exact .iref _ _ _ _ _ f (fun j hj => (hv j hj).mono hm) fun j x hj => ih j x hj (HLe.refl _) (fun b hb => absurd rfl hb)
  | nilp H => intro H' _ _; exact .nilp _
  | fn H f caps vs g hs hv hr ih => intro H' h1 h2; exact .fn _ _ _ _ g hs hv fun i c hc => ih i c hc h1 h2
  | tup H xs vs g hs hv hr ih => intro H' h1 h2; exact .tup _ _ _ g hs hv fun i c hc => ih i c hc h1 h2
  | ifc H t v x hr ih => intro H' h1 h2; exact .ifc _ _ _ _ (ih h1 h2)
  | nili H => intro H' _ _; exact .nili _
  | ub H b => intro H' _ _; exact .ub _ _
theorem Rep.ofNo {w : World} {M : Nat → Prop} {μ μ' : Lay} {H : Heap} {v : AV} {x : Value} (h : Rep w M μ noH v x) : Rep w M μ' H v x :=
  h.mono (fun g _ hg => ⟨hg, rfl⟩) (HLe.noH H) (fun b hb => absurd rfl hb)
theorem Rep.cAV {w : World} {M : Nat → Prop} {μ : Lay} {H : Heap} (x : Value) : Rep w M μ H (cAV x) x := by
  unfold AE.cAV
  split <;> first | exact .int _ _ _ | exact .bool _ _ | exact .str _ _ | exact .nils _ | exact .nilp _ | exact .nili _ | exact .u _ _

/-- What lies in a box's block. -/
def BoxC (w : World) (M : Nat → Prop) (μ : Lay) (H : Heap) (cur : Array Value) (e : TypeId) (c : Nat) : Box → Prop
  | .obj cs => cur.size = cs.length ∧ ∀ (i : Nat) (x : AV), cs[i]? = some x → ∃ v : Value, cur[i]? = some v ∧ v.oneCell' = true ∧ Rep w M μ H x v
  | .row e' sz L _ => e' = e ∧ 0 < sz ∧ (∀ x ∈ L, x.length = sz) ∧ cur.size = c * sz ∧ L.length ≤ c ∧ c ≤ maxLen ∧
      ∀ (i j : Nat) (xs : List AV) (x : AV), L[i]? = some xs → xs[j]? = some x → ∃ v : Value, cur[i * sz + j]? = some v ∧ v.oneCell' = true ∧ Rep w M μ noH x v
  | .dead => False
/-- What a box is, where it lies. -/
def BoxAt (w : World) (M : Nat → Prop) (μ : Lay) (H : Heap) (b : Bid) (x : Box) : Prop :=
  x = .dead ∨ (∃ (g c : Nat) (cur : Array Value) (e : TypeId), μ b = some (g, c) ∧ w.heap[g]? = some (.cells cur e (0, 0)) ∧ BoxC w M μ H cur e c x) ∨
  (μ b = none ∧ ∃ e sz z, x = .row e sz [] z ∧ 0 < sz)
def Box.hot : Box → Bool
  | .obj _ => true
  | .row _ _ _ z => !z
  | .dead => false
def Box.live : Box → Bool
  | .dead => false
  | _ => true
/-- Blocks that may change. -/
def forb (Mx : Nat → Prop) (μ : Lay) (H : Heap) (g : Nat) : Prop := Mx g ∨ ∃ b x c, H b = some x ∧ x.hot = true ∧ μ b = some (g, c)

/-- What stays fixed throughout a call: the program, the world it began in, blocks of the callers' that may change later, the number of temporaries. -/
structure Ctx where
  P : Program
  w0 : World
  Mx : Nat → Prop
  n : Nat
  pin : Nat → Option (Nat × Nat)
  df : List Deferred
/-- Blocks that the caller passed: they may be written. -/
def Ctx.io (Γ : Ctx) (g : Nat) : Prop := ∃ i c, Γ.pin i = some (g, c)
/-- All memory below B stays, but for some blocks. -/
structure BelowX (B : Nat) (io : Nat → Prop) (w w' : World) : Prop where
  os : w'.os = w.os
  tape : w'.tape = w.tape
  output : w'.output = w.output
  size : w.heap.size ≤ w'.heap.size
  block : ∀ k, k < B → ¬ io k → w'.heap[k]? = w.heap[k]?
theorem BelowX.refl (B : Nat) (io : Nat → Prop) (w : World) : BelowX B io w w := ⟨rfl, rfl, rfl, Nat.le_refl _, fun _ _ _ => rfl⟩
theorem BelowX.trans {B : Nat} {io : Nat → Prop} {a b c : World} (h : BelowX B io a b) (k : BelowX B io b c) : BelowX B io a c :=
  ⟨k.os.trans h.os, k.tape.trans h.tape, k.output.trans h.output, Nat.le_trans h.size k.size, fun i hi hn => (k.block i hi hn).trans (h.block i hi hn)⟩
theorem BelowX.mono {B B' : Nat} {io : Nat → Prop} {w w' : World} (h : BelowX B io w w') (hB : B' ≤ B) : BelowX B' io w w' := ⟨h.os, h.tape, h.output, h.size, fun k hk hn => h.block k (Nat.lt_of_lt_of_le hk hB) hn⟩
theorem BelowX.of {B : Nat} {io : Nat → Prop} {w w' : World} (h : Below B w w') : BelowX B io w w' := ⟨h.os, h.tape, h.output, h.size, fun k hk _ => h.block k hk⟩
theorem BelowX.below {B : Nat} {io : Nat → Prop} {w w' : World} (h : BelowX B io w w') (hn : ∀ k, ¬ io k) : Below B w w' := ⟨h.os, h.tape, h.output, h.size, fun k hk => h.block k hk (hn k)⟩
/-- No block of cells. -/
def noCells : Obj → Bool
  | .cells _ _ _ => false
  | _ => true
/-- The deferred calls of an act: marks of loops, whose blocks lie ready, ahead of the given ones. -/
def Marks (Γ : Ctx) (ds : List Deferred) (w : World) : Prop := ∃ ms : List Nat, ds = ms.map (fun D => (⟨.collected D, #[]⟩ : Deferred)) ++ Γ.df ∧ ms.Nodup ∧ ∀ D ∈ ms, Γ.w0.heap.size ≤ D ∧ w.heap[D]? = some (.deferred (some []))
theorem Marks.nil (Γ : Ctx) (w : World) : Marks Γ Γ.df w := ⟨[], rfl, List.nodup_nil, by simp⟩
theorem Marks.mono {Γ : Ctx} {ds : List Deferred} {w w' : World} (h : Marks Γ ds w) (hm : ∀ D : Nat, Γ.w0.heap.size ≤ D → w.heap[D]? = some (.deferred (some [])) → w'.heap[D]? = w.heap[D]?) : Marks Γ ds w' := by
  obtain ⟨ms, h1, h2, h3⟩ := h
  exact ⟨ms, h1, h2, fun D hD => ⟨(h3 D hD).1, (hm D (h3 D hD).1 (h3 D hD).2).trans (h3 D hD).2⟩⟩
structure Rel (Γ : Ctx) (s : St) (μ : Lay) (a : Act) (w : World) : Prop where
  hd : Marks Γ a.defers w
  hn : a.tmps.size = Γ.n
  hx : ∀ g, Γ.Mx g → g < Γ.w0.heap.size ∧ ¬ Γ.io g
  ht : ∀ i, Rep w (forb Γ.Mx μ s.H) μ s.H (s.t i) (a.tmps.getD i undef)
  hb : ∀ b x, s.H b = some x → BoxAt w (forb Γ.Mx μ s.H) μ s.H b x
  hi : ∀ b b' x x' g c c', s.H b = some x → s.H b' = some x' → x.hot = true → x'.live = true → μ b = some (g, c) → μ b' = some (g, c') → b = b'
  hf : ∀ b x g c, s.H b = some x → μ b = some (g, c) → x.live = true → Γ.w0.heap.size ≤ g ∨ Γ.io g
  hw : BelowX Γ.w0.heap.size Γ.io Γ.w0 w
  hp : ∀ i x, s.H (1, i) = some x → x.live = true → μ (1, i) = Γ.pin i

theorem eva_rep {Γ : Ctx} {s : St} {μ : Lay} {a : Act} {w : World} (h : Rel Γ s μ a w) (x : Operand) : Rep w (forb Γ.Mx μ s.H) μ s.H (eva s.t x) (a.eval x) := by
  cases x with
  | tmp i => exact h.ht i
  | const v => exact Rep.cAV v
  | global g => exact .u _ _
  | func f => exact .fn _ _ _ _ (fun _ => default) rfl (fun i hi => absurd hi (by simp)) (fun i c hc => by simp at hc)
theorem getD_put (a : Act) (d : Option Tmp) (v : Value) (i : Nat) (hd : ∀ t, d = some t → t < a.tmps.size) :
    (a.put d v).tmps.getD i undef = if d = some i then v else a.tmps.getD i undef := by
  cases d with
  | none => simp [Act.put]
  | some t =>
    have := hd t rfl
    simp only [Act.put, Array.getD_eq_getD_getElem?, Array.getElem?_setIfInBounds, Option.some.injEq]
    by_cases e : t = i
    · subst e; simp [this]
    · simp [e]
theorem tput_at (t : Nat → AV) (d : Option Tmp) (v : AV) (i : Nat) : tput t d v i = if d = some i then v else t i := by
  cases d with
  | none => simp [tput]
  | some k => simp only [tput, fput, Option.some.injEq]; by_cases e : i = k <;> simp [e, eq_comm]
theorem Rel.put {Γ : Ctx} {s : St} {μ : Lay} {a : Act} {w : World} (h : Rel Γ s μ a w) {d : Option Tmp} (hd : ∀ t, d = some t → t < Γ.n) {v : AV} {x : Value}
    (hv : Rep w (forb Γ.Mx μ s.H) μ s.H v x) : Rel Γ ⟨tput s.t d v, s.H⟩ μ (a.put d x) w := by
  refine ⟨?_, ?_, h.hx, fun i => ?_, h.hb, h.hi, h.hf, h.hw, h.hp⟩
  · cases d <;> exact h.hd
  · cases d <;> simp [Act.put, h.hn]
  · show Rep w (forb Γ.Mx μ s.H) μ s.H (tput s.t d v i) _
    rw [getD_put a d x i (by rw [h.hn]; exact hd), tput_at]
    by_cases e : d = some i
    · rw [if_pos e, if_pos e]; exact hv
    · rw [if_neg e, if_neg e]; exact h.ht i
end Go.Proofs.Ytebflegkdfhoaaa.AE
