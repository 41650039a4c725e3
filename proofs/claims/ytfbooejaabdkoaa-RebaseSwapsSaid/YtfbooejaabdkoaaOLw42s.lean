/-
 RebaseSwaps. Conditions: none; every contract names its own.
-/
import Derived.Test.YtfbooejaabdkoaaORb4
import Derived.Test.YtfbooejaabdkoaaPg
set_option linter.constructorNameAsVariable false
namespace Go.Proofs.Ytfbooejaabdkoaa.AE
open Go Go.Proofs Go.RowKit
set_option linter.unusedVariables false
set_option linter.unusedSimpArgs false
set_option maxRecDepth 100000
set_option maxHeartbeats 4000000
def loT (xs ys : List Chg) (k : Nat) : List Id := lostL (xs.take k) ys
@[go_sem] theorem loT_zero (xs ys : List Chg) : loT xs ys 0 = [] := rfl
theorem loT_succ {xs ys : List Chg} {k : Nat} {a : Chg} (h : xs[k]? = some a) : loT xs ys (k + 1) = loT xs ys k ++ (if placeC ys a.id < 0 then [a.id] else []) := by
 unfold loT
 rw [show xs.take (k + 1) = xs.take k ++ [a] by rw [List.take_add_one, h]; rfl, lostL_snoc]
theorem loT_all (xs ys : List Chg) : loT xs ys xs.length = lostL xs ys := by unfold loT; rw [List.take_length]
theorem loT_len (xs ys : List Chg) (k : Nat) : (loT xs ys k).length ≤ k := by
 have := lostL_len (xs.take k) ys
 have h2 : (xs.take k).length ≤ k := by simp; omega
 unfold loT
 omega
theorem range_at {n i k j : Nat} {pre post : List Nat} (h : pre ++ i :: post = List.range n) (hb : post[j]? = some k) : k = pre.length + 1 + j ∧ k < n := by
 have h1 : (List.range n)[pre.length + 1 + j]? = some k := by
  rw [← h, List.getElem?_append_right (by omega), show pre.length + 1 + j - pre.length = j + 1 by omega]
  simpa using hb
 have h2 := (List.getElem?_eq_some_iff.1 h1).1
 rw [List.length_range] at h2
 rw [List.getElem?_range h2] at h1
 cases h1
 exact ⟨rfl, h2⟩
theorem range_len {n i : Nat} {pre post : List Nat} (h : pre ++ i :: post = List.range n) : pre.length + 1 + post.length = n := by
 have := congrArg List.length h
 simp at this
 omega
theorem pair_cases {xs ys : List Chg} {i k : Nat} {a c : Chg} (ha : xs[i]? = some a) (hc : xs[k]? = some c) :
  (placeC xs a.id ≠ i ∧ pairB xs ys i k = false) ∨ (placeC xs a.id = i ∧ placeC xs c.id ≠ k ∧ pairB xs ys i k = false) ∨ (placeC xs a.id = i ∧ placeC xs c.id = k ∧ ((placeC ys a.id < 0 ∧ pairB xs ys i k = false) ∨ (0 ≤ placeC ys a.id ∧ placeC ys c.id < 0 ∧ pairB xs ys i k = false) ∨ (0 ≤ placeC ys a.id ∧ 0 ≤ placeC ys c.id ∧ ¬ placeC ys c.id < placeC ys a.id ∧ pairB xs ys i k = false) ∨ (0 ≤ placeC ys a.id ∧ 0 ≤ placeC ys c.id ∧ placeC ys c.id < placeC ys a.id ∧ pairB xs ys i k = true))) := by
 have e : pairB xs ys i k = (decide (placeC xs a.id = i) && decide (placeC xs c.id = k) && swapB ys a.id c.id) := by
  unfold pairB firstB idAt
  rw [ha, hc]
 rw [e]
 by_cases h1 : placeC xs a.id = i
 ·
  by_cases h2 : placeC xs c.id = k
  ·
   refine .inr (.inr ⟨h1, h2, ?_⟩)
   simp only [h1, h2, decide_true, Bool.true_and]
   exact swap_cases ys a.id c.id
  · exact .inr (.inl ⟨h1, h2, by simp [h2]⟩)
 · exact .inl ⟨h1, by simp [h1]⟩
def rsI (xs ys : List Chg) (pre _post : List Nat) (n : Nat) : St := ⟨ofL [(0, .sl 9 (rows cChg xs)), (1, .sl 9 (rows cChg ys)), (5, .int .i64 n), (6, .own (0, 999) (loT xs ys pre.length).length), (7, .int .i64 pre.length)], hOf [((0, 999), .row 37 2 (rows cId (loT xs ys pre.length)) false)]⟩
def rsM (xs ys : List Chg) (i : Nat) (a : Chg) (n : Nat) : St := ⟨ofL [(0, .sl 9 (rows cChg xs)), (1, .sl 9 (rows cChg ys)), (5, .int .i64 n), (6, .own (0, 998) (loT xs ys (i + 1)).length), (7, .int .i64 i), (8, .int .i64 (placeC ys a.id))], hOf [((0, 998), .row 37 2 (rows cId (loT xs ys (i + 1))) false)]⟩
def rsJ (xs ys : List Chg) (i : Nat) (a : Chg) (pre _post : List Nat) (n : Nat) : St := ⟨ofL [(0, .sl 9 (rows cChg xs)), (1, .sl 9 (rows cChg ys)), (5, .int .i64 n), (6, .own (0, 998) (loT xs ys (i + 1)).length), (7, .int .i64 i), (8, .int .i64 (placeC ys a.id)), (9, .int .i64 ((i + 1 + pre.length : Nat) : Int))], hOf [((0, 998), .row 37 2 (rows cId (loT xs ys (i + 1))) false)]⟩
structure rebaseSwapsX where
 x : List Chg
 x' : AV
 y : List Chg
 y' : AV
 h_x : SlA 9 cChg x x'
 h_y : SlA 9 cChg y y'
noncomputable def rebaseSwapsS : HSpec := mkH (ι := rebaseSwapsX) (fun ⟨x, x', y, y', h_x, h_y⟩ => ([x', y'], [])) fun ⟨x, x', y, y', h_x, h_y⟩ => ⟨.bool true, [], []⟩
theorem rebaseSwapsS_atG (x : List Chg) (x' : AV) (y : List Chg) (y' : AV) (h_x : SlA 9 cChg x x') (h_y : SlA 9 cChg y y') : rebaseSwapsS [x', y'] [] = some (⟨.bool true, [], []⟩) :=
 mA_ (ι := rebaseSwapsX) (fun i j h => by obtain ⟨x, x', y, y', h_x, h_y⟩ := i; obtain ⟨x2, x'2, y2, y'2, h_x2, h_y2⟩ := j; simp [and_assoc, qB_, qI_, qO_, qC_, qE_, qK_, qR_, qV_, qP_, qOc_] at h; obtain ⟨rfl, rfl⟩ := h; obtain rfl := SlA.inj (fun x y h => cChg_inj h) h_x h_x2; obtain rfl := SlA.inj (fun x y h => cChg_inj h) h_y h_y2; rfl) ⟨x, x', y, y', h_x, h_y⟩
theorem rebaseSwapsS_at (x : List Chg) (y : List Chg) : rebaseSwapsS [(.sl 9 (rows cChg x)), (.sl 9 (rows cChg y))] [] = some (⟨.bool true, [], []⟩) := rebaseSwapsS_atG x _ y _ .sl .sl
theorem rebaseSwaps_ok : HSound Try.prog 5 rebaseSwapsS := by
 refine sE_ (fn := Try.f5) rfl rfl (by kernel_rfl) fun args bx hr hS => ?_
 obtain ⟨⟨x, x', y, y', h_x, h_y⟩, rfl, rfl, rfl⟩ := mO_ hS
 clear hS
 refine ⟨_, (eH_ (g := 9) (by kernel_rfl) alive42_ok (eV_ (g := 10) (by kernel_rfl) few42_ok (eV_ (g := 14) (by kernel_rfl) findCR_ok (eV_ (g := 21) (by kernel_rfl) swaps_ok (eV_ (g := 23) (by kernel_rfl) lost_ok (eV_ (g := 22) (by kernel_rfl) plIds_ok (eN_ _))))))), by simp [Try.f5], by simp [go_sem], fun w Mx pin => ?_⟩
 simp only [hB_at, lab_nil, lab_cons, hOf_nil, hOf_cons]
 refine aW_ (s' := ⟨ofL [(0, (.sl 9 (rows cChg x))), (1, (.sl 9 (rows cChg y)))], hOf []⟩) ?_ ?_
 · cases h_x <;> cases h_y <;> exact wO_ [] (by simp [go_sem]) (by simp [go_sem]) (by simp [go_sem])
 clear h_x h_y
 obtain ⟨xs, hxs⟩ : ∃ xs, xs = x.take 25 := ⟨_, rfl⟩
 obtain ⟨ys, hys⟩ : ∃ ys, ys = y.take 25 := ⟨_, rfl⟩
 have hx25 : xs.length ≤ 25 := by rw [hxs]; simp; omega
 have hy25 : ys.length ≤ 25 := by rw [hys]; simp; omega
 have hxl : xs.length ≤ 100000 := by omega
 have hyl : ys.length ≤ 100000 := by omega
 have hrg : (List.range xs.length).length ≤ 100000 := by simp; omega
 have hsw : swapsL xs ys ≤ 1100000 := by
  have h0 := idsL_len xs
  have h1 := cntP_len (swapB ys) (idsL xs)
  have h2 : (idsL xs).length * (idsL xs).length ≤ 1000 * 1000 := Nat.mul_le_mul (by omega) (by omega)
  unfold swapsL
  omega
 refine aQ_ ?_
 iterate 1
  refine oC_ fun J hJ => ?_
  simp [go_sem]
  refine hJ _ _ _ ?_
  clear hJ J
 refine oN_ ?_
 refine aS_ fun K2 hK2 => ?_
 refine aQ_ ?_
 iterate 2
  refine oC_ fun J hJ => ?_
  simp [go_sem, alive42S_at]
  refine hJ _ _ _ ?_
  clear hJ J
 refine oN_ ?_
 refine aF_ rfl ?_
 refine aK_ ?_
 refine hK2 _ ?_
 clear hK2
 refine aQ_ ?_
 iterate 6
  refine oC_ fun J hJ => ?_
  simp [go_sem, few42S_at x, few42S_at y, ← hxs, ← hys]
  refine hJ _ _ _ ?_
  clear hJ J
 refine oN_ ?_
 refine aQ_ ?_
 iterate 1
  refine oC_ fun J hJ => ?_
  simp [go_sem]
  refine hJ _ _ _ ?_
  clear hJ J
 refine oN_ ?_
 refine aQ_ ?_
 iterate 1
  refine oC_ fun J hJ => ?_
  simp [go_sem]
  refine hJ _ _ _ ?_
  clear hJ J
 refine oN_ ?_
 refine aS_ fun K9 hK9 => ?_
 refine aQ_ ?_
 iterate 1
  refine oC_ fun J hJ => ?_
  simp [go_sem]
  refine hJ _ _ _ ?_
  clear hJ J
 refine oN_ ?_
 refine aB_ ?_
 refine aL_ (ι := { q : List Nat × List Nat × Nat // q.1 ++ q.2.1 = (List.range xs.length) ∧ q.2.2 + cntP (pairB xs ys) q.2.1 = swapsL xs ys }) (fun q => rsI xs ys q.1.1 q.1.2.1 q.1.2.2) (fun q => q.1.2.1.length) ⟨([], (List.range xs.length), 0), rfl, by rw [swapsL_pairs]; simp⟩ ?_ ?_
 · refine wO_ [((0, 999), none)] (by simp [go_sem]) ?_ ?_ <;> simp [go_sem, dropped]
 intro ⟨⟨pre, post, n⟩, hl, hgo⟩
 simp only at hl hgo
 have hpl := lS_ hl hrg
 simp only [rsI]
 refine aS_ fun K11 hK11 => ?_
 refine aQ_ ?_
 iterate 4
  refine oC_ fun J hJ => ?_
  simp [go_sem]
  refine hJ _ _ _ ?_
  clear hJ J
 refine oN_ ?_
 refine aC_ (t := _) rfl (fun c13 => ?_) (fun c13 => ?_)
 ·
  simp [go_sem] at c13
  obtain ⟨i, post, rfl, hi⟩ := mL_ hl (by simpa using c13)
  have hlt : pre.length < xs.length := c13
  rw [List.getElem?_range hlt] at hi
  cases hi
  obtain ⟨a, hx⟩ : ∃ a, xs[pre.length]? = some a := ⟨_, List.getElem?_eq_getElem hlt⟩
  have hlo := loT_succ (ys := ys) hx
  have hll := loT_len xs ys pre.length
  have wp := wN_ (n := pre.length) (by omega)
  have hrl := range_len hl
  have hpo : post.length ≤ 100000 := by omega
  refine aK_ ?_
  refine hK11 _ ?_
  clear hK11
  refine aS_ fun K14 hK14 => ?_
  refine aB_ ?_
  refine aQ_ ?_
  iterate 8
   refine oC_ fun J hJ => ?_
   simp [go_sem, hlt, ↓hx, hx, findCRS_at ys a.id hyl]
   refine hJ _ _ _ ?_
   clear hJ J
  refine oN_ ?_
  refine aS_ fun K16 hK16 => ?_
  have jK16 : ∀ s : St, Weak ⟨Try.prog, w, Mx, Try.f5.ntmps, pin, [], true⟩ (rsM xs ys pre.length a n) s → K16 s := by
   intro s hw
   refine hK16 s (aW_ hw ?_)
   simp only [rsM]
   refine aQ_ ?_
   iterate 3
    refine oC_ fun J hJ => ?_
    simp [go_sem, wp]
    refine hJ _ _ _ ?_
    clear hJ J
   refine oN_ ?_
   refine aB_ ?_
   refine aL_ (ι := { q : List Nat × List Nat × Nat // q.1 ++ q.2.1 = post ∧ q.2.2 + (q.2.1.filter (pairB xs ys pre.length)).length = n + (post.filter (pairB xs ys pre.length)).length }) (fun q => rsJ xs ys pre.length a q.1.1 q.1.2.1 q.1.2.2) (fun q => q.1.2.1.length) ⟨([], post, n), rfl, rfl⟩ ?_ ?_
   · refine wO_ [((0, 998), some (0, 998))] (by simp [go_sem]) ?_ ?_ <;> simp [go_sem, wp]
   intro ⟨⟨ip, iq, m⟩, hli, hgi⟩
   simp only at hli hgi
   have hpi := lS_ hli hpo
   simp only [rsJ]
   generalize hq : pre.length + 1 + ip.length = q
   refine aS_ fun K20 hK20 => ?_
   refine aQ_ ?_
   iterate 4
    refine oC_ fun J hJ => ?_
    simp [go_sem]
    refine hJ _ _ _ ?_
    clear hJ J
   refine oN_ ?_
   refine aC_ (t := _) rfl (fun c22 => ?_) (fun c22 => ?_)
   ·
    simp [go_sem] at c22
    have hqx : q < xs.length := c22
    obtain ⟨k, iq, rfl, hb⟩ := mL_ hli (by omega)
    obtain ⟨hk1, hk2⟩ := range_at hl hb
    obtain rfl : k = q := by omega
    obtain ⟨c, hb2⟩ : ∃ c, xs[k]? = some c := ⟨_, List.getElem?_eq_getElem hqx⟩
    have wq := wN_ (n := k) (by omega)
    have hmb : m ≤ 1100000 := by
     rw [cntP_cons] at hgo
     simp only [List.filter_cons] at hgi
     omega
    have wm := wrap_mid (n := m) hmb
    refine aK_ ?_
    refine hK20 _ ?_
    clear hK20
    refine aS_ fun K23 hK23 => ?_
    refine aB_ ?_
    refine aQ_ ?_
    iterate 8
     refine oC_ fun J hJ => ?_
     simp [go_sem, hqx, ↓hb2, hb2, findCRS_at ys c.id hyl]
     refine hJ _ _ _ ?_
     clear hJ J
    refine oN_ ?_
    refine aS_ fun K25 hK25 => ?_
    rcases pair_cases (ys := ys) hx hb2 with ⟨e1, hsb⟩ | ⟨e1, e2, hsb⟩ | ⟨e1, e2, ⟨k1, hsb⟩ | ⟨k1, k2, hsb⟩ | ⟨k1, k2, k3, hsb⟩ | ⟨k1, k2, k3, hsb⟩⟩
    ·
     have f1 : (placeC xs a.id == (pre.length : Int)) = false := by simpa using e1
     refine aR_ ?_
     iterate 21
      refine oC_ fun J hJ => ?_
      simp [go_sem, hlt, hqx, ↓hx, ↓hb2, hx, hb2, findCRS_at xs a.id hxl, findCRS_at xs c.id hxl, f1]
      refine hJ _ _ _ ?_
      clear hJ J
     refine oN_ ?_
     refine hK25 _ ?_
     clear hK25
     refine aQ_ ?_
     iterate 14
      refine oC_ fun J hJ => ?_
      simp [go_sem, f1]
      refine hJ _ _ _ ?_
      clear hJ J
     refine oN_ ?_
     refine aF_ rfl ?_
     refine aK_ ?_
     refine hK23 _ ?_
     clear hK23
     refine aR_ ?_
     iterate 3
      refine oC_ fun J hJ => ?_
      simp [go_sem, wq]
      refine hJ _ _ _ ?_
      clear hJ J
     refine oN_ ?_
     refine ⟨⟨(ip ++ [k], iq, (if pairB xs ys pre.length k = true then m + 1 else m)), by simp [← hli], by rw [← hgi]; simp [List.filter_cons, hsb]; try omega⟩, ?_, by simp⟩
     refine wO_ [((0, 998), some (0, 998))] (by simp [go_sem]) ?_ ?_ <;> simp [go_sem, wN_ hpi, hsb, wm, wq] <;> omega
    ·
     have f2 : (placeC xs c.id == (k : Int)) = false := by simpa using e2
     refine aR_ ?_
     iterate 21
      refine oC_ fun J hJ => ?_
      simp [go_sem, hlt, hqx, ↓hx, ↓hb2, hx, hb2, findCRS_at xs a.id hxl, findCRS_at xs c.id hxl, e1, f2]
      refine hJ _ _ _ ?_
      clear hJ J
     refine oN_ ?_
     refine hK25 _ ?_
     clear hK25
     refine aQ_ ?_
     iterate 14
      refine oC_ fun J hJ => ?_
      simp [go_sem, e1, f2]
      refine hJ _ _ _ ?_
      clear hJ J
     refine oN_ ?_
     refine aF_ rfl ?_
     refine aK_ ?_
     refine hK23 _ ?_
     clear hK23
     refine aR_ ?_
     iterate 3
      refine oC_ fun J hJ => ?_
      simp [go_sem, wq]
      refine hJ _ _ _ ?_
      clear hJ J
     refine oN_ ?_
     refine ⟨⟨(ip ++ [k], iq, (if pairB xs ys pre.length k = true then m + 1 else m)), by simp [← hli], by rw [← hgi]; simp [List.filter_cons, hsb]; try omega⟩, ?_, by simp⟩
     refine wO_ [((0, 998), some (0, 998))] (by simp [go_sem]) ?_ ?_ <;> simp [go_sem, wN_ hpi, hsb, wm, wq] <;> omega
    ·
     have k1b : ¬ 0 ≤ placeC ys a.id := by omega
     refine aR_ ?_
     iterate 21
      refine oC_ fun J hJ => ?_
      simp [go_sem, hlt, hqx, ↓hx, ↓hb2, hx, hb2, findCRS_at xs a.id hxl, findCRS_at xs c.id hxl, e1, e2]
      refine hJ _ _ _ ?_
      clear hJ J
     refine oN_ ?_
     refine hK25 _ ?_
     clear hK25
     refine aQ_ ?_
     iterate 14
      refine oC_ fun J hJ => ?_
      simp [go_sem, e1, e2, k1b]
      refine hJ _ _ _ ?_
      clear hJ J
     refine oN_ ?_
     refine aF_ rfl ?_
     refine aK_ ?_
     refine hK23 _ ?_
     clear hK23
     refine aR_ ?_
     iterate 3
      refine oC_ fun J hJ => ?_
      simp [go_sem, wq]
      refine hJ _ _ _ ?_
      clear hJ J
     refine oN_ ?_
     refine ⟨⟨(ip ++ [k], iq, (if pairB xs ys pre.length k = true then m + 1 else m)), by simp [← hli], by rw [← hgi]; simp [List.filter_cons, hsb]; try omega⟩, ?_, by simp⟩
     refine wO_ [((0, 998), some (0, 998))] (by simp [go_sem]) ?_ ?_ <;> simp [go_sem, wN_ hpi, hsb, wm, wq] <;> omega
    ·
     have k2b : ¬ 0 ≤ placeC ys c.id := by omega
     refine aR_ ?_
     iterate 21
      refine oC_ fun J hJ => ?_
      simp [go_sem, hlt, hqx, ↓hx, ↓hb2, hx, hb2, findCRS_at xs a.id hxl, findCRS_at xs c.id hxl, e1, e2]
      refine hJ _ _ _ ?_
      clear hJ J
     refine oN_ ?_
     refine hK25 _ ?_
     clear hK25
     refine aQ_ ?_
     iterate 14
      refine oC_ fun J hJ => ?_
      simp [go_sem, e1, e2, k1, k2b]
      refine hJ _ _ _ ?_
      clear hJ J
     refine oN_ ?_
     refine aF_ rfl ?_
     refine aK_ ?_
     refine hK23 _ ?_
     clear hK23
     refine aR_ ?_
     iterate 3
      refine oC_ fun J hJ => ?_
      simp [go_sem, wq]
      refine hJ _ _ _ ?_
      clear hJ J
     refine oN_ ?_
     refine ⟨⟨(ip ++ [k], iq, (if pairB xs ys pre.length k = true then m + 1 else m)), by simp [← hli], by rw [← hgi]; simp [List.filter_cons, hsb]; try omega⟩, ?_, by simp⟩
     refine wO_ [((0, 998), some (0, 998))] (by simp [go_sem]) ?_ ?_ <;> simp [go_sem, wN_ hpi, hsb, wm, wq] <;> omega
    ·
     refine aR_ ?_
     iterate 21
      refine oC_ fun J hJ => ?_
      simp [go_sem, hlt, hqx, ↓hx, ↓hb2, hx, hb2, findCRS_at xs a.id hxl, findCRS_at xs c.id hxl, e1, e2]
      refine hJ _ _ _ ?_
      clear hJ J
     refine oN_ ?_
     refine hK25 _ ?_
     clear hK25
     refine aQ_ ?_
     iterate 14
      refine oC_ fun J hJ => ?_
      simp [go_sem, e1, e2, k1, k2, k3]
      refine hJ _ _ _ ?_
      clear hJ J
     refine oN_ ?_
     refine aF_ rfl ?_
     refine aK_ ?_
     refine hK23 _ ?_
     clear hK23
     refine aR_ ?_
     iterate 3
      refine oC_ fun J hJ => ?_
      simp [go_sem, wq]
      refine hJ _ _ _ ?_
      clear hJ J
     refine oN_ ?_
     refine ⟨⟨(ip ++ [k], iq, (if pairB xs ys pre.length k = true then m + 1 else m)), by simp [← hli], by rw [← hgi]; simp [List.filter_cons, hsb]; try omega⟩, ?_, by simp⟩
     refine wO_ [((0, 998), some (0, 998))] (by simp [go_sem]) ?_ ?_ <;> simp [go_sem, wN_ hpi, hsb, wm, wq] <;> omega
    ·
     refine aR_ ?_
     iterate 21
      refine oC_ fun J hJ => ?_
      simp [go_sem, hlt, hqx, ↓hx, ↓hb2, hx, hb2, findCRS_at xs a.id hxl, findCRS_at xs c.id hxl, e1, e2]
      refine hJ _ _ _ ?_
      clear hJ J
     refine oN_ ?_
     refine hK25 _ ?_
     clear hK25
     refine aQ_ ?_
     iterate 14
      refine oC_ fun J hJ => ?_
      simp [go_sem, e1, e2, k1, k2, k3]
      refine hJ _ _ _ ?_
      clear hJ J
     refine oN_ ?_
     refine aT_ rfl ?_
     refine aR_ ?_
     iterate 3
      refine oC_ fun J hJ => ?_
      simp [go_sem, wm]
      refine hJ _ _ _ ?_
      clear hJ J
     refine oN_ ?_
     refine hK23 _ ?_
     clear hK23
     refine aR_ ?_
     iterate 3
      refine oC_ fun J hJ => ?_
      simp [go_sem, wq]
      refine hJ _ _ _ ?_
      clear hJ J
     refine oN_ ?_
     refine ⟨⟨(ip ++ [k], iq, (if pairB xs ys pre.length k = true then m + 1 else m)), by simp [← hli], by rw [← hgi]; simp [List.filter_cons, hsb]; try omega⟩, ?_, by simp⟩
     refine wO_ [((0, 998), some (0, 998))] (by simp [go_sem]) ?_ ?_ <;> simp [go_sem, wN_ hpi, hsb, wm, wq] <;> omega
   ·
    simp [go_sem] at c22
    obtain ⟨rfl, hie⟩ := mN_ hli (by omega)
    have hm2 : m + cntP (pairB xs ys) post = swapsL xs ys := by rw [← hgo, cntP_cons, ← Nat.add_assoc, ← hgi]; simp
    refine aX_ ?_
    simp only [go_sem]
    refine hK14 _ ?_
    clear hK14
    refine aR_ ?_
    iterate 3
     refine oC_ fun J hJ => ?_
     simp [go_sem]
     refine hJ _ _ _ ?_
     clear hJ J
    refine oN_ ?_
    refine ⟨⟨(pre ++ [pre.length], post, m), by simp [← hl], by exact hm2⟩, ?_, by simp⟩
    refine wO_ [((0, 999), some (0, 998))] (by simp [go_sem]) ?_ ?_ <;> simp [go_sem, wN_ hpl]
  refine aQ_ ?_
  iterate 2
   refine oC_ fun J hJ => ?_
   simp [go_sem]
   refine hJ _ _ _ ?_
   clear hJ J
  refine oN_ ?_
  refine aC_ (t := _) rfl (fun c18 => ?_) (fun c18 => ?_)
  ·
   simp [go_sem] at c18
   have hm : placeC ys a.id < 0 := c18
   refine aR_ ?_
   iterate 9
    refine oC_ fun J hJ => ?_
    simp [go_sem, hlt, ↓hx, hx, show ((loT xs ys pre.length).length + 1) * 16 ≤ 140737488355328 by omega, show (loT xs ys pre.length).length + 1 ≤ maxLen by (simp only [maxLen]; omega)]
    refine hJ _ _ _ ?_
    clear hJ J
   refine oN_ ?_
   first
    | (refine jK16 _ (wO_ [((0, 998), some (0, 640))] (by simp [go_sem]) ?_ ?_) <;> (simp [go_sem, hlo, hm, rows_append]; done))
    | (refine jK16 _ (wO_ [((0, 998), some (0, 999))] (by simp [go_sem]) ?_ ?_) <;> (simp [go_sem, hlo, hm]; done))
  ·
   simp [go_sem] at c18
   have hm : ¬ placeC ys a.id < 0 := by omega
   refine aK_ ?_
   first
    | (refine jK16 _ (wO_ [((0, 998), some (0, 640))] (by simp [go_sem]) ?_ ?_) <;> (simp [go_sem, hlo, hm, rows_append]; done))
    | (refine jK16 _ (wO_ [((0, 998), some (0, 999))] (by simp [go_sem]) ?_ ?_) <;> (simp [go_sem, hlo, hm]; done))
 ·
  simp [go_sem] at c13
  obtain ⟨rfl, hpe⟩ := mN_ hl (by simpa using c13)
  have hpl3 : pre.length = xs.length := by rw [← hpe]; simp
  have hn : n = swapsL xs ys := by rw [← hgo]; simp [cntP]
  refine aX_ ?_
  simp only [go_sem]
  refine hK9 _ ?_
  clear hK9
  refine aQ_ ?_
  iterate 26
   refine oC_ fun J hJ => ?_
   simp [go_sem, swapsS_at xs ys ⟨by omega, hyl⟩, swapsS_at xs xs ⟨by omega, hxl⟩, lostS_at xs ys ⟨hxl, hyl⟩, lostS_at xs xs ⟨hxl, hxl⟩, hn, swaps_self, lost_self, hpl3, loT_all, plIdsS_at (lostL xs ys) (lostL xs ys) (by have := lostL_len xs ys; omega)]
   refine hJ _ _ _ ?_
   clear hJ J
  refine oN_ ?_
  refine aE_ ?_
  refine fQ_ [] ?_
  simp [go_sem, Try.f5]
theorem RebaseSwaps_walk (w : World) (a0 : Option Addr) (c0 : Nat) (L0 : List (List Int)) (h0 : L0.length ≤ c0) (m0 : c0 ≤ maxLen) (s0 : SlK w.heap.size 9 w a0 L0) (a1 : Option Addr) (c1 : Nat) (L1 : List (List Int)) (h1 : L1.length ≤ c1) (m1 : c1 ≤ maxLen) (s1 : SlK w.heap.size 9 w a1 L1) :
  Calls Try.prog 5 #[.slice a0 L0.length c0, .slice a1 L1.length c1] w fun e w' => e = .returned (.bool true) ∧ Below w.heap.size w w' := by
 obtain ⟨os0, e0, r0⟩ := slk_rows ex_Chg s0 h0 m0
 obtain ⟨os1, e1, r1⟩ := slk_rows ex_Chg s1 h1 m1
 refine true_walk rebaseSwaps_ok (rebaseSwapsS_at os0 os1) w rfl fun i v hi => ?_
 match i, hi with
 | 0, hi => cases hi; exact r0
 | 1, hi => cases hi; exact r1
end Go.Proofs.Ytfbooejaabdkoaa.AE
