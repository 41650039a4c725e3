/-
  A plain machine for the code of functions, and its soundness: part AEv. Conditions: none; every lemma names its own.
-/
import Derived.Test.YtebflegkdfhoaaaAE25
namespace Go.Proofs.Ytebflegkdfhoaaa.AE
open Go
set_option linter.unusedVariables false
/-! ## Rules for the walk -/
section
variable (T : TypeId → Option TI) (env : Env) (ops : Array Oper) (dst : Option Tmp) (op : Op) (ty : TypeId) (pos : String) (af : Array Edge) (s : St) (ρ : Operand → AV) (H : Heap)
@[go_sem] theorem aStep_plain : aStep T env ops ⟨dst, op, ty, pos, af, none⟩ s = fin dst s (aVal T env dst op (eva s.t) s.H) := rfl
@[go_sem] theorem aStep_guard (j w) : aStep T env ops ⟨dst, op, ty, pos, af, some (j, w)⟩ s = guarded w dst s (fin dst s (aVal T env dst op (eva s.t) s.H)) (guardV ops j s.t) := rfl
@[go_sem] theorem aVal_move (x) : aVal T env dst (.move x) ρ H = val (ρ x) := rfl
@[go_sem] theorem aVal_assign (x) : aVal T env dst (.assign x) ρ H = val (ρ x) := rfl
@[go_sem] theorem aVal_pick (c a b) : aVal T env dst (.pick c a b) ρ H = vPick (ρ c) (ρ a) (ρ b) := rfl
@[go_sem] theorem aVal_alloc (t) : aVal T env dst (.alloc t) ρ H = vAlloc (nid dst) (T t) := rfl
@[go_sem] theorem aVal_box (t x) : aVal T env dst (.box t x) ρ H = vBox (nid dst) (cells (ρ x)) := rfl
@[go_sem] theorem aVal_build (t) (l : List (Nat × Operand)) : aVal T env dst (.build t l.toArray) ρ H = vBuild (T t) (l.map fun p => (p.1, ρ p.2)) := rfl
@[go_sem] theorem aVal_buildSlice (t n) (l : List (Nat × Operand)) : aVal T env dst (.buildSlice t n l.toArray) ρ H = vBuildSlice (nid dst) n H (T t) ((T t).bind fun i => T i.etype) (l.map fun p => (p.1, ρ p.2)) := rfl
@[go_sem] theorem aVal_loadE (t a) : aVal T env dst (.load t a) ρ H = vLoad H (T t) (ρ a) := rfl
@[go_sem] theorem aVal_store (t a x) : aVal T env dst (.store t a x) ρ H = vStore H (T t) (ρ a) (ρ x) := rfl
@[go_sem] theorem aVal_nilCheck (a) : aVal T env dst (.nilCheck a) ρ H = vNil (ρ a) := rfl
@[go_sem] theorem aVal_binOp (o t x y t') : aVal T env dst (.binOp o t x y t') ρ H = vBin (T t) o (ρ x) (ρ y) := rfl
@[go_sem] theorem aVal_unOp (o t x) : aVal T env dst (.unOp o t x) ρ H = vUn o (ρ x) := rfl
@[go_sem] theorem aVal_convert (t t' x) : aVal T env dst (.convert t t' x) ρ H = vConv (T t') (ρ x) := rfl
@[go_sem] theorem aVal_iface (t x) : aVal T env dst (.makeInterface t x) ρ H = vIface t (ρ x) := rfl
@[go_sem] theorem aVal_panic (x) : aVal T env dst (.panic x) ρ H = vPanic (ρ x) := rfl
@[go_sem] theorem aVal_makeFunc (f) (l : List Operand) : aVal T env dst (.makeFunc (.func f) #[] l.toArray) ρ H = val (.fn f (l.map ρ)) := rfl
@[go_sem] theorem aVal_slice (t x lo hi) : aVal T env dst (.slice t x lo hi none) ρ H = vSlice H (ρ x) (T t) (content H (ρ x)) (bnd (some 0) (lo.map ρ)) (bnd ((content H (ρ x)).map (·.2.length)) (hi.map ρ)) := rfl
@[go_sem] theorem aVal_fieldAddr (t x f) : aVal T env dst (.fieldAddr t x f) ρ H = vFieldAddr H (T t) (ρ x) f := rfl
@[go_sem] theorem aVal_field (t x f) : aVal T env dst (.field t x f) ρ H = vField (T t) (ρ x) f := rfl
@[go_sem] theorem aVal_indexAddr (t x i) : aVal T env dst (.indexAddr t x i) ρ H = vIndexAddr H (T t) (ρ x) (ρ i) := rfl
@[go_sem] theorem aVal_extract (x i) : aVal T env dst (.extract x i) ρ H = vExtract i (ρ x) := rfl
@[go_sem] theorem aVal_len (x t) : aVal T env dst (.call ⟨.builtin .len, #[x], #[t]⟩) ρ H = vLen H (T t) (ρ x) := rfl
@[go_sem] theorem aVal_max (x y ts) : aVal T env dst (.call ⟨.builtin .max, #[x, y], ts⟩) ρ H = vMax (ρ x) (ρ y) := rfl
@[go_sem] theorem aVal_max4 (x y z uu ts) : aVal T env dst (.call ⟨.builtin .max, #[x, y, z, uu], ts⟩) ρ H = vMax4 (ρ x) (ρ y) (ρ z) (ρ uu) := rfl
@[go_sem] theorem aVal_min (x y ts) : aVal T env dst (.call ⟨.builtin .min, #[x, y], ts⟩) ρ H = vMin (ρ x) (ρ y) := rfl
@[go_sem] theorem aVal_append (a x t) : aVal T env dst (.call ⟨.builtin .append, #[a, x], #[t, t]⟩) ρ H = vAppend H (nid dst) (ρ a) (T t) ((T t).bind fun i => T i.etype) (content H (ρ x)) := by
  simp [aVal, vCallC, vBuiltin]
@[go_sem] theorem aVal_call (f) (l : List Operand) (ts) : aVal T env dst (.call ⟨.value f, l.toArray, ts⟩) ρ H = vCall (nid dst) H env (ρ f) (l.map ρ) := rfl
end
@[go_sem] theorem fin_none (d s) : fin d s none = none := rfl
@[go_sem] theorem stepK_val (d s v K Q) : stepK K Q (fin d s (val v)) = K ⟨tput s.t d v, s.H⟩ [] [] := rfl
@[go_sem] theorem fin_val (d s v) : fin d s (val v) = some ⟨⟨tput s.t d v, s.H⟩, [], [], none⟩ := rfl
@[go_sem] theorem fin_some' (d s v nw up fp) : fin d s (some ⟨v, nw, up, fp, none⟩) = finH d s ⟨v, nw, up, fp, none⟩ (hnews s.H nw) := rfl
@[go_sem] theorem fin_pan (d s v nw up fp p) : fin d s (some ⟨v, nw, up, fp, some p⟩) = finH d s ⟨v, nw, up, fp, some p⟩ (hnews s.H nw) := rfl
@[go_sem] theorem finH_some (d s v nw up fp H) : finH d s ⟨v, nw, up, fp, none⟩ (some H) = some ⟨⟨tput s.t d v, hputs H up⟩, up.map (·.1), fp, none⟩ := rfl
@[go_sem] theorem finH_pan (d s v nw up fp p H) : finH d s ⟨v, nw, up, fp, some p⟩ (some H) = some ⟨⟨s.t, hputs H up⟩, up.map (·.1), fp, some p⟩ := rfl
@[go_sem] theorem stepK_out (s c f K Q) : stepK K Q (some ⟨s, c, f, none⟩) = K s c f := rfl
@[go_sem] theorem stepK_pan (s c f v K Q) : stepK K Q (some ⟨s, c, f, some v⟩) = Q (.pan v) s := rfl
@[go_sem] theorem guarded_bool (w d s go b) : guarded w d s go (.bool b) = if b = w then go else some ⟨⟨tput s.t d (.tup []), s.H⟩, [], [], none⟩ := rfl
@[go_sem] theorem guarded_ud (w d s go) : guarded w d s go (.tup []) = some ⟨⟨tput s.t d (.tup []), s.H⟩, [], [], none⟩ := rfl
@[go_sem] theorem vPick_bool (t a b) : vPick (.bool t) a b = val (bif t then a else b) := rfl
@[go_sem] theorem vAlloc_some (b i) : vAlloc b (some i) = if i.zero.isEmpty = true then none else some ⟨.ref b 0, [(b, .obj i.zero)], [], [], none⟩ := rfl
@[go_sem] theorem vBox_some (b cs) : vBox b (some cs) = some ⟨.ref b 0, [(b, .obj cs)], [], [], none⟩ := rfl
@[go_sem] theorem vBuild_some (i l) : vBuild (some i) l = if i.zero.isEmpty = true ∨ i.agg = false then none else optA (if i.arr then arrP i.esize l (some i.zero) else structP i.fields l (some i.zero)) := rfl
@[go_sem] theorem optA_some (l) : optA (some l) = val (.agg l) := rfl
@[go_sem] theorem vBuildSlice_some (b n H i e l) : vBuildSlice b n H (some i) (some e) l = if i.slc = true ∧ e.zero.length = i.esize ∧ 0 < i.esize ∧ n * i.esize ≤ 16777216 ∧ (l.map (·.2)).all plainA = true then rowP b i n (frzs H (rowsIn (l.map (·.2)))) (arrP i.esize (l.map fun p => (p.1, view H 2 p.2)) (some (List.replicate n e.zero).flatten)) else none := rfl
@[go_sem] theorem rowP_some (b i n up cs) : rowP b i n up (some cs) = if cs.all flatC = true ∧ cs.length = n * i.esize then some ⟨.own b n, [(b, .row i.etype i.esize (chunk i.esize n cs) false)], up, up.map (·.1), none⟩ else none := rfl
@[go_sem] theorem vLoad_ref (H i b o) : vLoad H (some i) (.ref b o) = loadB i b o (H b) := rfl
@[go_sem] theorem vLoad_iref (H i b o) : vLoad H (some i) (.iref b o) = optV (ld i b o) := rfl
@[go_sem] theorem vLoad_eref (H i b j o) : vLoad H (some i) (.eref b j o) = loadE i b o (nthRow j (H b)) := rfl
@[go_sem] theorem loadB_obj (i b o cs) : loadB i b o (some (.obj cs)) = (ld i cs o).map fun v => ⟨v, [], [], [b], none⟩ := rfl
@[go_sem] theorem loadE_some (i b o cs) : loadE i b o (some cs) = (ld i cs o).map fun v => ⟨v, [], [], [b], none⟩ := rfl
@[go_sem] theorem nthRow_row (j e sz L f) : nthRow j (some (.row e sz L f)) = L[j]? := rfl
@[go_sem] theorem vStore_ref (H i b o x) : vStore H (some i) (.ref b o) x = storeB b o i.size (cells x) (H b) := rfl
@[go_sem] theorem vStore_eref (H i b j o x) : vStore H (some i) (.eref b j o) x = storeE b j o i.size (cells x) (H b) := rfl
@[go_sem] theorem storeB_obj (b o n d cs) : storeB b o n (some d) (some (.obj cs)) = if d.length = n ∧ o + n ≤ cs.length then some ⟨.u, [], [(b, .obj (over cs o d))], [b], none⟩ else none := rfl
@[go_sem] theorem storeE_row (b j o n d e sz L) : storeE b j o n (some d) (some (.row e sz L false)) = storeR b j o n d e sz L L[j]? := rfl
@[go_sem] theorem storeR_some (b j o n d e sz L cs) : storeR b j o n d e sz L (some cs) = if d.length = n ∧ o + n ≤ cs.length ∧ d.all flatC = true then some ⟨.u, [], [(b, .row e sz (L.set j (over cs o d)) false)], [b], none⟩ else none := rfl
@[go_sem] theorem vNil_ref (b o) : vNil (.ref b o) = val (.ref b o) := rfl
@[go_sem] theorem vNil_iref (b o) : vNil (.iref b o) = val (.iref b o) := rfl
@[go_sem] theorem vUn_not (b) : vUn .not (.bool b) = val (.bool !b) := rfl
@[go_sem] theorem vUn_neg (k n) : vUn .neg (.int k n) = val (.int k (k.wrap (0 - n))) := rfl
@[go_sem] theorem vConv_int (i k n) : vConv (some i) (.int k n) = convK n i.kind := rfl
@[go_sem] theorem convK_some (n k) : convK n (some k) = val (.int k (k.wrap n)) := rfl
@[go_sem] theorem vFieldAddr_some (H i x f) : vFieldAddr H (some i) x f = fieldO H x i.fields[f]? := rfl
@[go_sem] theorem fieldO_some (H x f) : fieldO H x (some f) = if f.2.1 = 0 then none else addO H f.1 x := rfl
@[go_sem] theorem addO_ref (H o b p) : addO H o (.ref b p) = val (.ref b (p + o)) := rfl
@[go_sem] theorem addO_iref (H o b p) : addO H o (.iref b p) = val (.iref b (p + o)) := rfl
@[go_sem] theorem addO_eref (H o b j p) : addO H o (.eref b j p) = if isRow (H b) = true then some ⟨.eref b j (p + o), [], [], [b], none⟩ else none := rfl
@[go_sem] theorem vField_agg (i cs f) : vField (some i) (.agg cs) f = fieldV cs i.fields[f]? := rfl
@[go_sem] theorem fieldV_some (cs f) : fieldV cs (some f) = if f.2.2 then (if f.1 + f.2.1 ≤ cs.length then val (.agg ((cs.drop f.1).take f.2.1)) else none) else optV cs[f.1]? := rfl
@[go_sem] theorem vIndexAddr_sl (H i k L q n) : vIndexAddr H (some i) (.sl k L) (.int q n) = if k = i.esize ∧ k ≠ 0 ∧ i.slc = true ∧ 0 ≤ n then irefO L[n.toNat]? else none := rfl
@[go_sem] theorem vIndexAddr_own (H i b m k n) : vIndexAddr H (some i) (.own b m) (.int k n) = if i.slc = true ∧ 0 ≤ n ∧ n < m ∧ erow i.esize (H b) = true then some ⟨.eref b n.toNat 0, [], [], [b], none⟩ else none := rfl
@[go_sem] theorem vIndexAddr_ref (H i b o k n) : vIndexAddr H (some i) (.ref b o) (.int k n) = if i.arr = true ∧ 0 ≤ n ∧ n < i.len then addO H (n.toNat * i.esize) (.ref b o) else none := rfl
@[go_sem] theorem vIndexAddr_iref (H i b o k n) : vIndexAddr H (some i) (.iref b o) (.int k n) = if i.arr = true ∧ 0 ≤ n ∧ n < i.len then addO H (n.toNat * i.esize) (.iref b o) else none := rfl
@[go_sem] theorem irefO_some (cs) : irefO (some cs) = val (.iref cs 0) := rfl
@[go_sem] theorem bnd_none (d) : bnd d none = d := rfl
@[go_sem] theorem bnd_int (d k n) : bnd d (some (.int k n)) = if 0 ≤ n then some n.toNat else none := rfl
@[go_sem] theorem vSlice_some (H x i k L l h) : vSlice H x (some i) (some (k, L)) (some l) (some h) = if i.slc = true ∧ (k = i.esize ∨ L = []) then cutS H x k L l h else none := rfl
@[go_sem] theorem cutS_sl (H k' L' k L l h) : cutS H (.sl k' L') k L l h = if l ≤ h ∧ h ≤ L.length then val (.sl k ((L.take h).drop l)) else none := rfl
@[go_sem] theorem cutS_nils (H k L l h) : cutS H .nils k L l h = if l ≤ h ∧ h ≤ L.length then val .nils else none := rfl
@[go_sem] theorem vCap_nils (i) : vCap .nils (some i) = if i.slc = true then val (.int .i64 0) else none := rfl
@[go_sem] theorem vZeros_nils (b k n i ie i') : vZeros b .nils (.int k n) (some i) (some ie) (some i') = if i.slc = true ∧ ie.zero.length = i.esize ∧ 0 < i.esize ∧ i'.kind.isSome = true ∧ 0 < n ∧ n.toNat * i.ebytes ≤ 140737488355328 ∧ n ≤ 4611686018427387904 then some ⟨.own b n.toNat, [(b, .row i.etype i.esize (List.replicate n.toNat ie.zero) false)], [], [], none⟩ else none := rfl
@[go_sem] theorem cutS_own (H b n k L l h) : cutS H (.own b n) k L l h = if l ≤ h ∧ h ≤ L.length then (if l = 0 then some ⟨.own b h, [], [], [b], none⟩ else frzB b (.sl k ((L.take h).drop l)) (H b)) else none := rfl
@[go_sem] theorem frzB_row (b v e sz M z) : frzB b v (some (.row e sz M z)) = some ⟨v, [], [(b, .row e sz M true)], [b], none⟩ := rfl
@[go_sem] theorem vAppend_nils (H b i e k M) : vAppend H b .nils (some i) (some e) (some (k, M)) = if i.slc = true ∧ e.zero.length = i.esize ∧ 0 < i.esize ∧ (k = i.esize ∨ M = []) then (if M.length * i.ebytes ≤ 140737488355328 ∧ M.length ≤ maxLen then some ⟨.own b M.length, [(b, .row i.etype i.esize M false)], [], [], none⟩ else none) else none := rfl
@[go_sem] theorem vAppend_own (H b b' n i e k M) : vAppend H b (.own b' n) (some i) (some e) (some (k, M)) = if i.slc = true ∧ e.zero.length = i.esize ∧ 0 < i.esize ∧ (k = i.esize ∨ M = []) then (if (n + M.length) * i.ebytes ≤ 140737488355328 ∧ n + M.length ≤ maxLen then appO b b' n i M (H b') else none) else none := rfl
@[go_sem] theorem appO_row (b b' n i M e sz L) : appO b b' n i M (some (.row e sz L false)) = if e = i.etype ∧ sz = i.esize then some ⟨.own b (n + M.length), [(b, .row e sz (L.take n ++ M) false)], [(b', .dead)], [b'], none⟩ else none := rfl
@[go_sem] theorem vLen_sl (H i k L) : vLen H (some i) (.sl k L) = if i.slc = true then val (.int .i64 L.length) else none := rfl
@[go_sem] theorem vLen_own (H i b n) : vLen H (some i) (.own b n) = if i.slc = true then lenO (rowOf n (H b)) else none := rfl
@[go_sem] theorem vLen_nils (H i) : vLen H (some i) .nils = if i.slc = true then val (.int .i64 0) else none := rfl
@[go_sem] theorem vLen_str (H i s) : vLen H (some i) (.str s) = if i.agg = false ∧ i.kinds = some [.str] then val (.int .i64 s.size) else none := rfl
@[go_sem] theorem lenO_some (k L) : lenO (some (k, L)) = val (.int .i64 L.length) := rfl
@[go_sem] theorem vExtract_tup (i vs) : vExtract i (.tup vs) = optV vs[i]? := rfl
@[go_sem] theorem vCall_fn (b H env g caps l) : vCall b H env (.fn g caps) l = callS b H (env.lookup g) (l ++ caps) := rfl
@[go_sem] theorem callS_some (b H S l) : callS b H (some (.p S)) l = callR b H l (S (l.map (view H 3))) := rfl
@[go_sem] theorem callS_h (b H S l) : callS b H (some (.h S)) l = runH b H S l (l.foldl (coll H 6) []) := rfl
@[go_sem] theorem callS_v (b H S l) : callS b H (some (.v S)) l = callV b H l (S (l.map (view H 3)) []) := rfl
@[go_sem] theorem callV_some (b0 H args hr) : callV b0 H args (some hr) = if lightH hr = true then callH b0 [] (some hr) else if args.all plainA = true then withUp (frzs H (rowsIn args)) (callH b0 [] (some hr)) else none := rfl
section
variable (H : Heap) (bs : List Bid) (b0 : Bid) (d : Nat)
@[go_sem] theorem told_own (b n) : told H bs (d + 1) (.own b n) = optOwn n (frzV n (H b)) (place b 0 bs) := rfl
@[go_sem] theorem told_ref (b n) : told H bs (d + 1) (.ref b n) = optRef n (place b 0 bs) := rfl
@[go_sem] theorem told_agg (cs) : told H bs (d + 1) (.agg cs) = .agg (cs.map (told H bs d)) := rfl
@[go_sem] theorem told_fn (f cs) : told H bs (d + 1) (.fn f cs) = .fn f (cs.map (told H bs d)) := rfl
@[go_sem] theorem told_ifc (t x) : told H bs (d + 1) (.ifc t x) = .ifc t (told H bs d x) := rfl
@[go_sem] theorem told_iref (cs o) : told H bs (d + 1) (.iref cs o) = .iref cs o := rfl
@[go_sem] theorem told_int (k n) : told H bs d (.int k n) = .int k n := by cases d <;> rfl
@[go_sem] theorem told_bool (b) : told H bs d (.bool b) = .bool b := by cases d <;> rfl
@[go_sem] theorem told_str (b) : told H bs d (.str b) = .str b := by cases d <;> rfl
@[go_sem] theorem told_sl (k L) : told H bs d (.sl k L) = .sl k L := by cases d <;> rfl
@[go_sem] theorem told_nils : told H bs d .nils = .nils := by cases d <;> rfl
@[go_sem] theorem told_nilp : told H bs d .nilp = .nilp := by cases d <;> rfl
@[go_sem] theorem told_nili : told H bs d .nili = .nili := by cases d <;> rfl
@[go_sem] theorem told_u : told H bs d .u = .u := by cases d <;> rfl
@[go_sem] theorem back_own (b n) : back bs b0 (d + 1) (.own b n) = ownO n (backB bs b0 b) := rfl
@[go_sem] theorem back_ref (b n) : back bs b0 (d + 1) (.ref b n) = refO n (backB bs b0 b) := rfl
@[go_sem] theorem back_agg (cs) : back bs b0 (d + 1) (.agg cs) = .agg (cs.map (back bs b0 d)) := rfl
@[go_sem] theorem back_fn (f cs) : back bs b0 (d + 1) (.fn f cs) = .fn f (cs.map (back bs b0 d)) := rfl
@[go_sem] theorem back_tup (cs) : back bs b0 (d + 1) (.tup cs) = .tup (cs.map (back bs b0 d)) := rfl
@[go_sem] theorem back_ifc (t x) : back bs b0 (d + 1) (.ifc t x) = .ifc t (back bs b0 d x) := rfl
@[go_sem] theorem back_iref (cs o) : back bs b0 (d + 1) (.iref cs o) = .iref cs o := rfl
@[go_sem] theorem back_int (k n) : back bs b0 d (.int k n) = .int k n := by cases d <;> rfl
@[go_sem] theorem back_bool (b) : back bs b0 d (.bool b) = .bool b := by cases d <;> rfl
@[go_sem] theorem back_str (b) : back bs b0 d (.str b) = .str b := by cases d <;> rfl
@[go_sem] theorem back_sl (k L) : back bs b0 d (.sl k L) = .sl k L := by cases d <;> rfl
@[go_sem] theorem back_nils : back bs b0 d .nils = .nils := by cases d <;> rfl
@[go_sem] theorem back_nilp : back bs b0 d .nilp = .nilp := by cases d <;> rfl
@[go_sem] theorem back_nili : back bs b0 d .nili = .nili := by cases d <;> rfl
@[go_sem] theorem back_u : back bs b0 d .u = .u := by cases d <;> rfl
end
@[go_sem] theorem runH_at (b0 H S l bs) : runH b0 H S l bs = callH b0 bs (S (l.map (told H bs 5)) (bs.map fun b => renB (told H bs 5) ((H b).getD .dead))) := rfl
section
variable (b0 : Bid) (bs : List Bid) (up nw : List Box)
/-- A call's yield. -/
def endH (v : AV) : Option R := some ⟨back bs b0 5 v, labB b0 0 (nw.map (renB (back bs b0 5))), bs.zip (up.map (renB (back bs b0 5))), bs, none⟩
@[go_sem] theorem endH_at (v) : endH b0 bs up nw v = some ⟨back bs b0 5 v, labB b0 0 (nw.map (renB (back bs b0 5))), bs.zip (up.map (renB (back bs b0 5))), bs, none⟩ := rfl
@[go_sem] theorem callH_pnc (p) : callH b0 bs (some ⟨.pnc p, up, nw⟩) = some ⟨.u, labB b0 0 (nw.map (renB (back bs b0 5))), bs.zip (up.map (renB (back bs b0 5))), bs, some (back bs b0 5 p)⟩ := rfl
@[go_sem] theorem callH_int (k n) : callH b0 bs (some ⟨.int k n, up, nw⟩) = endH b0 bs up nw (.int k n) := rfl
@[go_sem] theorem callH_bool (n) : callH b0 bs (some ⟨.bool n, up, nw⟩) = endH b0 bs up nw (.bool n) := rfl
@[go_sem] theorem callH_str (n) : callH b0 bs (some ⟨.str n, up, nw⟩) = endH b0 bs up nw (.str n) := rfl
@[go_sem] theorem callH_agg (n) : callH b0 bs (some ⟨.agg n, up, nw⟩) = endH b0 bs up nw (.agg n) := rfl
@[go_sem] theorem callH_tup (n) : callH b0 bs (some ⟨.tup n, up, nw⟩) = endH b0 bs up nw (.tup n) := rfl
@[go_sem] theorem callH_sl (k n) : callH b0 bs (some ⟨.sl k n, up, nw⟩) = endH b0 bs up nw (.sl k n) := rfl
@[go_sem] theorem callH_own (b n) : callH b0 bs (some ⟨.own b n, up, nw⟩) = endH b0 bs up nw (.own b n) := rfl
@[go_sem] theorem callH_ref (b n) : callH b0 bs (some ⟨.ref b n, up, nw⟩) = endH b0 bs up nw (.ref b n) := rfl
@[go_sem] theorem callH_fn (f l) : callH b0 bs (some ⟨.fn f l, up, nw⟩) = endH b0 bs up nw (.fn f l) := rfl
@[go_sem] theorem callH_ifc (f l) : callH b0 bs (some ⟨.ifc f l, up, nw⟩) = endH b0 bs up nw (.ifc f l) := rfl
@[go_sem] theorem callH_nils : callH b0 bs (some ⟨.nils, up, nw⟩) = endH b0 bs up nw .nils := rfl
@[go_sem] theorem callH_nilp : callH b0 bs (some ⟨.nilp, up, nw⟩) = endH b0 bs up nw .nilp := rfl
@[go_sem] theorem callH_nili : callH b0 bs (some ⟨.nili, up, nw⟩) = endH b0 bs up nw .nili := rfl
end
@[go_sem] theorem callR_some (b H args r) : callR b H args (some r) = if lightR r = true then some (took b [] r) else if args.all plainA = true then some (took b (frzs H (rowsIn args)) r) else none := rfl
@[go_sem] theorem vMax_int (k a k' b) : vMax (.int k a) (.int k' b) = val (.int k (mx a b)) := rfl
@[go_sem] theorem vMax4_int (k a k' b k'' c k''' d) : vMax4 (.int k a) (.int k' b) (.int k'' c) (.int k''' d) = val (.int k (mx (mx (mx a b) c) d)) := rfl
@[go_sem] theorem vMin_int (k a k' b) : vMin (.int k a) (.int k' b) = val (.int k (mn a b)) := rfl
@[go_sem] theorem lookup_if (g h : FuncId) (S : Con) (l : Env) : List.lookup g ((h, S) :: l) = if g = h then some S else l.lookup g := by
  by_cases e : g = h
  · simp [List.lookup, e]
  · have : (g == h) = false := by simpa using e
    simp [List.lookup, e, this]
section
variable (b : Bid) (up : List (Bid × Box))
@[go_sem] theorem took_frs (e sz L) : took b up (.frs e sz L) = ⟨.own b L.length, [(b, .row e sz L false)], up, [], none⟩ := rfl
@[go_sem] theorem took_pnc (v) : took b up (.pnc v) = ⟨.u, [], up, [], some v⟩ := rfl
@[go_sem] theorem took_int (k n) : took b up (.int k n) = ⟨.int k n, [], up, [], none⟩ := rfl
@[go_sem] theorem took_bool (n) : took b up (.bool n) = ⟨.bool n, [], up, [], none⟩ := rfl
@[go_sem] theorem took_str (n) : took b up (.str n) = ⟨.str n, [], up, [], none⟩ := rfl
@[go_sem] theorem took_agg (n) : took b up (.agg n) = ⟨.agg n, [], up, [], none⟩ := rfl
@[go_sem] theorem took_tup (n) : took b up (.tup n) = ⟨.tup n, [], up, [], none⟩ := rfl
@[go_sem] theorem took_sl (k n) : took b up (.sl k n) = ⟨.sl k n, [], up, [], none⟩ := rfl
@[go_sem] theorem took_nils : took b up .nils = ⟨.nils, [], up, [], none⟩ := rfl
@[go_sem] theorem took_nilp : took b up .nilp = ⟨.nilp, [], up, [], none⟩ := rfl
end
section
@[go_sem] theorem light_int (k n) : light (.int k n) = true := rfl
@[go_sem] theorem light_bool (n) : light (.bool n) = true := rfl
@[go_sem] theorem light_str (n) : light (.str n) = true := rfl
@[go_sem] theorem light_nils : light .nils = true := rfl
@[go_sem] theorem light_nilp : light .nilp = true := rfl
@[go_sem] theorem light_sl (k L) : light (.sl k L) = L.isEmpty := by cases L <;> rfl
@[go_sem] theorem lightA_agg (cs) : lightA (.agg cs) = cs.all light := rfl
@[go_sem] theorem lightA_int (k n) : lightA (.int k n) = true := rfl
@[go_sem] theorem lightA_bool (n) : lightA (.bool n) = true := rfl
@[go_sem] theorem lightA_str (n) : lightA (.str n) = true := rfl
@[go_sem] theorem lightA_nils : lightA .nils = true := rfl
@[go_sem] theorem lightA_nilp : lightA .nilp = true := rfl
@[go_sem] theorem lightA_sl (k L) : lightA (.sl k L) = L.isEmpty := by cases L <;> rfl
@[go_sem] theorem lightR_agg (cs) : lightR (.agg cs) = cs.all light := rfl
@[go_sem] theorem lightR_tup (cs) : lightR (.tup cs) = cs.all lightA := rfl
@[go_sem] theorem lightR_int (k n) : lightR (.int k n) = true := rfl
@[go_sem] theorem lightR_bool (n) : lightR (.bool n) = true := rfl
@[go_sem] theorem lightR_str (n) : lightR (.str n) = true := rfl
@[go_sem] theorem lightR_nils : lightR .nils = true := rfl
@[go_sem] theorem lightR_nilp : lightR .nilp = true := rfl
@[go_sem] theorem lightR_sl (k L) : lightR (.sl k L) = L.isEmpty := by cases L <;> rfl
@[go_sem] theorem lightR_frs (e sz L) : lightR (.frs e sz L) = L.all fun xs => xs.all light := rfl
@[go_sem] theorem lightR_pnc (t v) : lightR (.pnc (.ifc t v)) = lightA v := rfl
@[go_sem] theorem plainA_int (k n) : plainA (.int k n) = true := rfl
@[go_sem] theorem plainA_bool (n) : plainA (.bool n) = true := rfl
@[go_sem] theorem plainA_str (n) : plainA (.str n) = true := rfl
@[go_sem] theorem plainA_sl (k n) : plainA (.sl k n) = true := rfl
@[go_sem] theorem plainA_own (k n) : plainA (.own k n) = true := rfl
@[go_sem] theorem plainA_nils : plainA .nils = true := rfl
@[go_sem] theorem plainA_nilp : plainA .nilp = true := rfl
@[go_sem] theorem plainA_agg (cs) : plainA (.agg cs) = cs.all flatC := by
  unfold plainA
  induction cs with
  | nil => rfl
  | cons x l ih => simp only [List.all_cons, ih]; cases x <;> rfl
@[go_sem] theorem plainA_fn (f) : plainA (.fn f []) = true := rfl
@[go_sem] theorem flatC_int (k n) : flatC (.int k n) = true := rfl
@[go_sem] theorem flatC_bool (n) : flatC (.bool n) = true := rfl
@[go_sem] theorem flatC_str (n) : flatC (.str n) = true := rfl
@[go_sem] theorem flatC_sl (k n) : flatC (.sl k n) = true := rfl
@[go_sem] theorem flatC_nils : flatC .nils = true := rfl
@[go_sem] theorem flatC_nilp : flatC .nilp = true := rfl
@[go_sem] theorem rowsIn_nil : rowsIn [] = [] := rfl
@[go_sem] theorem rowsIn_own' (b n l) : rowsIn (.own b n :: l) = b :: rowsIn l := rfl
@[go_sem] theorem rowsIn_int (k n l) : rowsIn (.int k n :: l) = rowsIn l := rfl
@[go_sem] theorem rowsIn_bool (n l) : rowsIn (.bool n :: l) = rowsIn l := rfl
@[go_sem] theorem rowsIn_str (n l) : rowsIn (.str n :: l) = rowsIn l := rfl
@[go_sem] theorem rowsIn_agg (n l) : rowsIn (.agg n :: l) = rowsIn l := rfl
@[go_sem] theorem rowsIn_sl (k n l) : rowsIn (.sl k n :: l) = rowsIn l := rfl
@[go_sem] theorem rowsIn_nils (l) : rowsIn (.nils :: l) = rowsIn l := rfl
@[go_sem] theorem rowsIn_fn (f c l) : rowsIn (.fn f c :: l) = rowsIn l := rfl
@[go_sem] theorem frzs_nil (H) : frzs H [] = [] := rfl
def frzC (b : Bid) (l : List (Bid × Box)) : Option Box → List (Bid × Box)
  | some (.row e sz L false) => (b, .row e sz L true) :: l
  | _ => l
@[go_sem] theorem frzs_cons (H b l) : frzs H (b :: l) = frzC b (frzs H l) (H b) := by
  cases h : H b with
  | none => simp [frzs, frzC, h]
  | some x =>
    cases x with
    | obj l => simp [frzs, frzC, h]
    | dead => simp [frzs, frzC, h]
    | row e sz L z => cases z <;> simp [frzs, frzC, h]
@[go_sem] theorem frzC_row (b l e sz L) : frzC b l (some (.row e sz L false)) = (b, .row e sz L true) :: l := rfl
@[go_sem] theorem frzC_frz (b l e sz L) : frzC b l (some (.row e sz L true)) = l := rfl
end
attribute [go_sem] ld chunk List.replicate argsF
@[go_sem low] theorem over_at (cs : List AV) (o : Nat) (d : List AV) : over cs o d = cs.take o ++ d ++ cs.drop (o + d.length) := rfl
@[go_sem] theorem thenX_normal (K Q s) : thenX K Q .normal s = K s := rfl
@[go_sem] theorem thenX_exit (K Q i s) : thenX K Q (.exit i) s = Q (.exit i) s := rfl
@[go_sem] theorem thenX_ret (K Q s) : thenX K Q .ret s = Q .ret s := rfl
@[go_sem] theorem thenX_pan (K Q v s) : thenX K Q (.pan v) s = Q (.pan v) s := rfl
@[go_sem] theorem blockX_normal (i Q s) : blockX i Q .normal s = Q .normal s := rfl
@[go_sem] theorem blockX_exit (i j Q s) : blockX i Q (.exit j) s = if j = i then Q .normal s else Q (.exit j) s := rfl
@[go_sem] theorem blockX_ret (i Q s) : blockX i Q .ret s = Q .ret s := rfl
@[go_sem] theorem blockX_pan (i v Q s) : blockX i Q (.pan v) s = Q (.pan v) s := rfl
@[go_sem] theorem finQ_normal (T rs r s) : finQ T rs r .normal s = (finR T s r rs ∧ (∀ p, r ≠ .pnc p)) := rfl
@[go_sem] theorem finQ_ret (T rs r s) : finQ T rs r .ret s = (finR T s r rs ∧ (∀ p, r ≠ .pnc p)) := rfl
@[go_sem] theorem finQ_pan (T rs r v s) : finQ T rs r (.pan v) s = (∃ p, r = .pnc p ∧ res s.H p v) := rfl
@[go_sem] theorem finR_tmp (T s r t) : finR T s r [.tmp t] = resT s.H r (s.t t) := rfl
@[go_sem] theorem finR_tmp2 (T s rs t t') : finR T s (.tup rs) [.tmp t, .tmp t'] = res.resC s.H rs [s.t t, s.t t'] := rfl
@[go_sem] theorem finR_tmp3 (T s rs t t' t'') : finR T s (.tup rs) [.tmp t, .tmp t', .tmp t''] = res.resC s.H rs [s.t t, s.t t', s.t t''] := rfl
def cellB (o : Nat) : Option TI → Option Box → Option AV
  | some i, some (.obj cs) => ld i cs o
  | _, _ => none
@[go_sem] theorem cellB_obj (o i cs) : cellB o (some i) (some (.obj cs)) = ld i cs o := rfl
def cellV (T : TypeId → Option TI) (s : St) (t : TypeId) : AV → Option AV
  | .ref b o => cellB o (T t) (s.H b)
  | _ => none
theorem resV_cell (T s a t) : resV T s (.cell a t) = cellV T s t (s.t a) := by
  simp only [resV, cellV]
  cases T t with
  | none => cases s.t a <;> simp [cellB]
  | some i =>
    cases s.t a with
    | ref b o =>
      dsimp only
      cases s.H b with
      | none => rfl
      | some x => cases x <;> rfl
    | _ => rfl
section
variable (H : Heap)
@[go_sem] theorem resT_frs (e sz L v) : resT H (.frs e sz L) v = resN H e sz L v := rfl
@[go_sem] theorem resT_int (k n v) : resT H (.int k n) v = (v = .int k n) := by cases v <;> simp [resT, res]
@[go_sem] theorem resT_bool (n v) : resT H (.bool n) v = (v = .bool n) := by cases v <;> simp [resT, res]
@[go_sem] theorem resT_str (n v) : resT H (.str n) v = (v = .str n) := by cases v <;> simp [resT, res]
@[go_sem] theorem resT_agg (l m) : resT H (.agg l) (.agg m) = res.resC H l m := by simp [resT, res]
@[go_sem] theorem resT_sl_own (k L b n) : resT H (.sl k L) (.own b n) = (rowOf n (H b) = some (k, L)) := by simp [resT, res]
@[go_sem] theorem resT_sl_nils (k L) : resT H (.sl k L) .nils = (L = []) := by simp [resT, res]
@[go_sem] theorem resT_sl_sl (k L k' M) : resT H (.sl k L) (.sl k' M) = (k' = k ∧ M = L) := by simp [resT, res]
@[go_sem] theorem resT_nilp : resT H .nilp .nilp = True := by simp [resT, res]
@[go_sem] theorem res_int (k n v) : res H (.int k n) v = (v = .int k n) := by cases v <;> simp [res]
@[go_sem] theorem res_bool (n v) : res H (.bool n) v = (v = .bool n) := by cases v <;> simp [res]
@[go_sem] theorem res_str (n v) : res H (.str n) v = (v = .str n) := by cases v <;> simp [res]
@[go_sem] theorem res_agg (l m) : res H (.agg l) (.agg m) = res.resC H l m := by simp [res]
@[go_sem] theorem res_sl_own (k L b n) : res H (.sl k L) (.own b n) = (rowOf n (H b) = some (k, L)) := by simp [res]
@[go_sem] theorem res_sl_nils (k L) : res H (.sl k L) .nils = (L = []) := by simp [res]
@[go_sem] theorem res_sl_sl (k L k' M) : res H (.sl k L) (.sl k' M) = (k' = k ∧ M = L) := by simp [res]
@[go_sem] theorem resC_nil : res.resC H [] [] = True := by simp [res.resC]
@[go_sem] theorem resC_cons (a l b m) : res.resC H (a :: l) (b :: m) = (res H a b ∧ res.resC H l m) := by simp [res.resC]
end
section
variable (H0 H : Heap) (ρ : Ren)
@[go_sem] theorem le_u (v) : le H0 H ρ .u v = True := by simp [le]
@[go_sem] theorem le_int (k n v) : le H0 H ρ (.int k n) v = (v = .int k n) := by cases v <;> simp [le]
@[go_sem] theorem le_bool (n v) : le H0 H ρ (.bool n) v = (v = .bool n) := by cases v <;> simp [le]
@[go_sem] theorem le_str (n v) : le H0 H ρ (.str n) v = (v = .str n) := by cases v <;> simp [le]
@[go_sem] theorem le_own (b n b' m) : le H0 H ρ (.own b n) (.own b' m) = (ρ.lookup b = some (some b') ∧ n = m ∧ isRow (H b) = true) := by simp [le]
@[go_sem] theorem le_own_nils (b n) : le H0 H ρ (.own b n) .nils = (ρ.lookup b = some none ∧ n = 0 ∧ isRow (H b) = true) := by simp [le]
@[go_sem] theorem le_sl_own (k L b n) : le H0 H ρ (.sl k L) (.own b n) = (rowOf n (H0 b) = some (k, L) ∧ dropped ρ b) := by simp [le]
@[go_sem] theorem le_ref (b n b' m) : le H0 H ρ (.ref b n) (.ref b' m) = (ρ.lookup b = some (some b') ∧ n = m ∧ isObj (H b) = true) := by simp [le]
@[go_sem] theorem le_agg (l m) : le H0 H ρ (.agg l) (.agg m) = le.leC H0 H ρ l m := by simp [le]
@[go_sem] theorem le_fn (f l g m) : le H0 H ρ (.fn f l) (.fn g m) = (f = g ∧ le.leC H0 H ρ l m) := by simp [le]
@[go_sem] theorem le_ifc (t x t' y) : le H0 H ρ (.ifc t x) (.ifc t' y) = (t = t' ∧ le H0 H ρ x y) := by simp [le]
@[go_sem] theorem le_iref (cs o v) : le H0 H ρ (.iref cs o) v = (v = .iref cs o) := by cases v <;> simp [le]
@[go_sem] theorem le_ub (v) : le H0 H ρ .ub v = (v = .ub) := by cases v <;> simp [le]
@[go_sem] theorem le_sl (k L k' M) : le H0 H ρ (.sl k L) (.sl k' M) = (k' = k ∧ M = L) := by simp [le]
@[go_sem] theorem le_sl_nils (k L) : le H0 H ρ (.sl k L) .nils = (L = []) := by simp [le]
@[go_sem] theorem le_nils : le H0 H ρ .nils .nils = True := by simp [le]
@[go_sem] theorem le_nilp : le H0 H ρ .nilp .nilp = True := by simp [le]
@[go_sem] theorem leC_nil : le.leC H0 H ρ [] [] = True := by simp [le.leC]
@[go_sem] theorem leC_cons (a l b m) : le.leC H0 H ρ (a :: l) (b :: m) = (le H0 H ρ a b ∧ le.leC H0 H ρ l m) := by simp [le.leC]
@[go_sem] theorem leB_obj (l m) : leB H0 H ρ (.obj l) (.obj m) = le.leC H0 H ρ l m := rfl
@[go_sem] theorem leB_row (e sz L z e' sz' L' z') : leB H0 H ρ (.row e sz L z) (.row e' sz' L' z') = (e = e' ∧ sz = sz' ∧ leRows L L' ∧ (z = false → z' = false)) := rfl
@[go_sem] theorem leRows_self (L) : leRows L L = True := eq_true (leRows_refl L)
@[go_sem] theorem leRows_cons (x l y m) : leRows (x :: l) (y :: m) = (leRow x y ∧ leRows l m) := rfl
@[go_sem] theorem leRow_nil : leRow [] [] = True := rfl
@[go_sem] theorem leRow_cons (x l y m) : leRow (x :: l) (y :: m) = (le0 x y ∧ leRow l m) := rfl
@[go_sem] theorem leRow_self (L) : leRow L L = True := eq_true (leRow_refl L)
@[go_sem] theorem le0_int (k n v) : le0 (.int k n) v = (v = .int k n) := rfl
@[go_sem] theorem le0_bool (n v) : le0 (.bool n) v = (v = .bool n) := rfl
@[go_sem] theorem le0_str (n v) : le0 (.str n) v = (v = .str n) := rfl
@[go_sem] theorem le0_nils (v) : le0 .nils v = (v = .nils) := rfl
@[go_sem] theorem le0_sl (k L k' M) : le0 (.sl k L) (.sl k' M) = (k' = k ∧ M = L) := by simp [le0]
@[go_sem] theorem le0_sl_nils (k L) : le0 (.sl k L) .nils = (L = []) := by simp [le0]
theorem leRows_snoc : ∀ (l m : List (List AV)) (x y : List AV), leRows (l ++ [x]) (m ++ [y]) = (leRows l m ∧ leRow x y)
  | [], [], x, y => by simp [leRows]
  | a :: l, b :: m, x, y => by simp only [List.cons_append, leRows, leRows_snoc l m x y, and_assoc]
  | [], b :: m, x, y => by cases m <;> simp [leRows]
  | a :: l, [], x, y => by cases l <;> simp [leRows]
@[go_sem] theorem leB_dead_row (e' sz' L' z') : leB H0 H ρ .dead (.row e' sz' L' z') = True := rfl
@[go_sem] theorem leB_dead : leB H0 H ρ .dead .dead = True := rfl
@[go_sem] theorem boxesOK_nil (H') : boxesOK H ρ H' [] = True := rfl
@[go_sem] theorem boxesOK_cons (H' b x l) : boxesOK H ρ H' ((b, x) :: l) = (boxOK H ρ H' b x ∧ boxesOK H ρ H' l) := rfl
@[go_sem] theorem tmpsOK_nil (t) : tmpsOK H0 H ρ t [] = True := rfl
@[go_sem] theorem tmpsOK_cons (t i v l) : tmpsOK H0 H ρ t ((i, v) :: l) = (le H0 H ρ v (t i) ∧ tmpsOK H0 H ρ t l) := rfl
@[go_sem] theorem dropped_nil (b) : dropped [] b = True := by simp [dropped]
@[go_sem] theorem dropped_cons (p l b) : dropped (p :: l) b = (p.2 ≠ some b ∧ dropped l b) := by simp [dropped]
def boxO (H' : Heap) (ρ : Ren) (H : Heap) (x : Box) : Option Box → Prop
  | some y => leB H H' ρ x y
  | none => False
@[go_sem] theorem boxO_some (x y H') : boxO H' ρ H x (some y) = leB H H' ρ x y := rfl
def boxR (H' : Heap) (ρ : Ren) (H : Heap) (x : Box) : Option (Option Bid) → Prop
  | some (some b) => boxO H' ρ H x (H b)
  | some none => match x with
    | .row _ sz L _ => 0 < sz ∧ L = []
    | _ => False
  | none => False
@[go_sem] theorem boxOK_eq (H' b x) : boxOK H ρ H' b x = boxR H ρ H' x (ρ.lookup b) := by
  unfold boxOK boxR boxO
  cases ρ.lookup b with
  | none => rfl
  | some o => cases o <;> rfl
@[go_sem] theorem boxR_some (H' x b) : boxR H ρ H' x (some (some b)) = boxO H ρ H' x (H' b) := rfl
@[go_sem] theorem boxR_none (H' e sz L z) : boxR H ρ H' (.row e sz L z) (some none) = (0 < sz ∧ L = []) := rfl
end
@[go_sem] theorem lookupR (b c : Bid) (o : Option Bid) (l : Ren) : List.lookup b ((c, o) :: l) = if b = c then some o else l.lookup b := by
  by_cases e : b = c
  · simp [List.lookup, e]
  · have : (b == c) = false := by simpa using e
    simp [List.lookup, e, this]
@[go_sem] theorem isObj_obj (cs) : isObj (some (.obj cs)) = true := rfl
@[go_sem] theorem renOK_nil : renOK [] = True := rfl
@[go_sem] theorem renOK_none (b l) : renOK ((b, none) :: l) = (b.1 ≠ 1 ∧ renOK l) := rfl
@[go_sem] theorem renOK_some (b c l) : renOK ((b, some c) :: l) = ((∀ p ∈ l, p.2 ≠ some c) ∧ (b.1 = 1 → c = b) ∧ renOK l) := rfl
section
variable {Γ : Ctx} {env : Env} {Q : X → St → Prop} {s : St}
theorem awp_condT {c : Operand} {x y : Code} (hc : eva s.t c = .bool true) (h1 : awp Γ env x Q s) : awp Γ env (.cond c x y) Q s := awp_cond hc (fun _ => h1) fun h => by cases h
theorem awp_condF {c : Operand} {x y : Code} (hc : eva s.t c = .bool false) (h1 : awp Γ env y Q s) : awp Γ env (.cond c x y) Q s := awp_cond hc (fun h => by cases h) fun _ => h1
/-- A slice held against nil. -/
theorem awp_condNil {c : Operand} {x y : Code} {L : List (List AV)} (hc : eva s.t c = nilB false L) (h1 : L = [] → awp Γ env x Q s) (h2 : awp Γ env y Q s) : awp Γ env (.cond c x y) Q s := by
  intro henv hok μ a w hR
  have hok' := hok
  simp only [codeOK, Bool.and_eq_true] at hok
  have hv := eva_rep hR c
  rw [hc] at hv
  have : ∃ b, a.eval c = .bool b ∧ (b = true → L = []) := by
    generalize a.eval c = v at hv
    cases L with
    | nil => cases hv with | ub _ b => exact ⟨b, rfl, fun _ => rfl⟩
    | cons z L => cases hv with | bool => exact ⟨false, rfl, fun h => by cases h⟩
  obtain ⟨b, hb, hbL⟩ := this
  exact wp_cond_split hb (fun ht => h1 (hbL ht) henv hok.1 μ a w hR) (fun _ => h2 henv hok.2 μ a w hR)
theorem awp_sl {c : Code} {i k : Nat} {L : List (List AV)} (hi : s.t i = .sl k L) (h : L.length ≤ maxLen → (∀ x ∈ L, x.length = k) → awp Γ env c Q s) : awp Γ env c Q s := by
  intro henv hok μ a w hR
  have hr := hR.ht i
  rw [hi] at hr
  generalize a.tmps.getD i undef = v at hr
  cases hr with
  | sl H k L a' c' f hc hm hk hv hr => exact h (by omega) hk henv hok μ a w hR
end
theorem wrap_ok {n : Int} (h0 : -9223372036854775808 ≤ n) (h1 : n < 9223372036854775808) : IntKind.i64.wrap n = n := by
  rw [IntKind.wrap_i64]
  omega
@[go_sem] theorem cellV_ref (T s t b o) : cellV T s t (.ref b o) = cellB o (T t) (s.H b) := rfl
def optRes (H : Heap) (r : AV) : Option AV → Prop
  | some v => resT H r v
  | none => False
@[go_sem] theorem optRes_some (H r v) : optRes H r (some v) = resT H r v := rfl
@[go_sem] theorem finR_cell (T s r a t) : finR T s r [.cell a t] = optRes s.H r (cellV T s t (s.t a)) := by
  rw [← resV_cell]
  simp only [finR, optRes]
  cases resV T s (.cell a t) <;> rfl
/-! ## Ends of functions that may write -/
@[go_sem] theorem finW_normal (T rs hr ρ s) : finW T rs hr ρ .normal s = (renOK ρ ∧ boxesOK (hOf (outL hr)) ρ s.H (outL hr) ∧ resH T s (hOf (outL hr)) ρ hr.v rs ∧ (∀ p, hr.v ≠ .pnc p)) := rfl
@[go_sem] theorem finW_ret (T rs hr ρ s) : finW T rs hr ρ .ret s = (renOK ρ ∧ boxesOK (hOf (outL hr)) ρ s.H (outL hr) ∧ resH T s (hOf (outL hr)) ρ hr.v rs ∧ (∀ p, hr.v ≠ .pnc p)) := rfl
@[go_sem] theorem finW_pan (T rs hr ρ v s) : finW T rs hr ρ (.pan v) s = (renOK ρ ∧ boxesOK (hOf (outL hr)) ρ s.H (outL hr) ∧ ∃ p, hr.v = .pnc p ∧ le s.H (hOf (outL hr)) ρ p v) := rfl
theorem finWQ_of {T rs hr x s} (ρ : Ren) (h : finW T rs hr ρ x s) : finWQ T rs hr x s := ⟨ρ, h⟩
section
variable (T : TypeId → Option TI) (s : St) (H : Heap) (ρ : Ren)
@[go_sem] theorem resH_nil (rs) : resH T s H ρ (.tup rs) [] = le.leC s.H H ρ rs [] := rfl
@[go_sem] theorem resH_tmp (r t) : resH T s H ρ r [.tmp t] = le s.H H ρ r (s.t t) := rfl
@[go_sem] theorem resH_tmp2 (rs t t') : resH T s H ρ (.tup rs) [.tmp t, .tmp t'] = le.leC s.H H ρ rs [s.t t, s.t t'] := rfl
@[go_sem] theorem resH_tmp3 (rs t t' t'') : resH T s H ρ (.tup rs) [.tmp t, .tmp t', .tmp t''] = le.leC s.H H ρ rs [s.t t, s.t t', s.t t''] := rfl
def optLe (H0 H : Heap) (ρ : Ren) (r : AV) : Option AV → Prop
  | some v => le H0 H ρ r v
  | none => False
@[go_sem] theorem optLe_some (H0 r v) : optLe H0 H ρ r (some v) = le H0 H ρ r v := rfl
@[go_sem] theorem resH_cell (r a t) : resH T s H ρ r [.cell a t] = optLe s.H H ρ r (cellV T s t (s.t a)) := by
  rw [← resV_cell]
  simp only [resH, optLe]
  cases resV T s (.cell a t) <;> rfl
end
@[go_sem] theorem hB_at (bx) : hB bx = hOf (lab 1 0 bx) := rfl
end Go.Proofs.Ytebflegkdfhoaaa.AE
