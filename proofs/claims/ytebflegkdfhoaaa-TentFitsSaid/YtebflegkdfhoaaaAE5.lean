/-
  A plain machine for the code of functions, and its soundness: part AE5. Conditions: none; every lemma names its own.
-/
import Derived.Test.YtebflegkdfhoaaaAE4
import Derived.ChangeKeysEq
namespace Go.Proofs.Ytebflegkdfhoaaa.AE
open Go Go.RowKit
set_option linter.unusedVariables false

/-! ## '==' on plain values -/
def toV : AV → Value
  | .int k n => .int k n
  | .bool b => .bool b
  | .str s => .string s
  | _ => undef
def valK (P : Program) (t : TypeId) (l : List AV) : Value :=
  match P.underlying t with
  | some (.array _ _) | some (.struct _) => .agg (l.map toV).toArray
  | _ => toV (l.headD .u)
theorem catK_cons {o : Option (List Kd)} {r : List (Option (List Kd))} {ks : List Kd} (h : catK (o :: r) = some ks) : ∃ l m, o = some l ∧ catK r = some m ∧ ks = l ++ m := by
  cases o with
  | none => simp [catK] at h
  | some l =>
    simp only [catK] at h
    split at h
    · rename_i m hm; exact ⟨l, m, rfl, hm, by simpa [eq_comm] using h⟩
    · cases h
theorem kinds_len {P : Program} : ∀ (d : Nat) (t : TypeId) (ks : List Kd), kindsAt P d t = some ks → ks.length = P.cellsOf t := by
  intro d
  induction d with
  | zero => intro t ks h; simp [kindsAt] at h
  | succ d ih =>
    intro t ks h
    unfold kindsAt at h
    split at h
    · cases h
    split at h
    · split at h
      · cases h; simp [*]
      · cases h
    · split at h
      · cases h; simp [*]
      · cases h
    · split at h
      · cases h; simp [*]
      · cases h
    · rename_i n e hu
      split at h
      · rename_i hc
        rw [hc.1]
        clear hc hu
        induction n generalizing ks with
        | zero => simp [catK] at h; simp [← h]
        | succ n ihn =>
          rw [List.replicate_succ] at h
          obtain ⟨l, m, h1, h2, rfl⟩ := catK_cons h
          rw [List.length_append, ih e l h1, ihn m h2, Nat.succ_mul]
          omega
      · cases h
    · rename_i fs hu
      split at h
      · rename_i hc
        simp only [Bool.and_eq_true] at hc
        have key : ∀ (fl : List Field) (off : Nat) (ks : List Kd), tilesK P off (P.cellsOf t) fl = true → catK (fl.map fun f => kindsAt P d f.type) = some ks → off + ks.length = P.cellsOf t := by
          intro fl
          induction fl with
          | nil => intro off ks h1 h2; simp [catK] at h2; simp [tilesK] at h1; simp [← h2, h1]
          | cons f fl ihf =>
            intro off ks h1 h2
            simp only [tilesK, Bool.and_eq_true] at h1
            obtain ⟨l, m, q1, q2, rfl⟩ := catK_cons h2
            have := ihf _ m h1.2 q2
            rw [List.length_append, ih _ l q1]
            omega
        have := key fs.toList 0 ks hc.2 h
        omega
      · cases h
    · cases h
theorem eqvs_append : ∀ (l1 m1 l2 m2 : List AV) (b : Bool), l1.length = m1.length → eqvs (l1 ++ l2) (m1 ++ m2) = some b → ∃ b1 b2, eqvs l1 m1 = some b1 ∧ eqvs l2 m2 = some b2 ∧ b = (b1 && b2)
  | [], [], l2, m2, b, _, h => ⟨true, b, rfl, h, by simp⟩
  | x :: l1, y :: m1, l2, m2, b, hl, h => by
    simp only [List.cons_append, eqvs] at h
    cases hx : eqv x y with
    | none => rw [hx] at h; simp [both] at h
    | some b0 =>
      cases hr : eqvs (l1 ++ l2) (m1 ++ m2) with
      | none => rw [hx, hr] at h; simp [both] at h
      | some b' =>
        rw [hx, hr] at h
        simp only [both, Option.some.injEq] at h
        obtain ⟨b1, b2, q1, q2, rfl⟩ := eqvs_append l1 m1 l2 m2 b' (by simpa using hl) hr
        exact ⟨b0 && b1, b2, by simp [eqvs, hx, q1, both], q2, by rw [← h, Bool.and_assoc]⟩
  | [], _ :: _, _, _, _, hl, _ => by simp at hl
  | _ :: _, [], _, _, _, hl, _ => by simp at hl
theorem eqvs_len : ∀ (l m : List AV) (b : Bool), eqvs l m = some b → l.length = m.length
  | [], [], _, _ => rfl
  | x :: l, y :: m, b, h => by
    simp only [eqvs] at h
    cases hr : eqvs l m with
    | none => rw [hr] at h; cases hx : eqv x y <;> rw [hx] at h <;> simp [both] at h
    | some b' => simp [eqvs_len l m b' hr]
  | [], _ :: _, _, h => by simp [eqvs] at h
  | _ :: _, [], _, h => by simp [eqvs] at h
section
variable {P : Program} (w : World)
theorem part_k {d : Nat} {t : TypeId} {ks : List Kd} (h : kindsAt P d t = some ks) (l : List AV) (off : Nat) (hl : off + P.cellsOf t ≤ l.length) :
    (part t (l.map toV).toArray off).run P w = .ok (valK P t ((l.drop off).take (P.cellsOf t))) w := by
  cases d with
  | zero => simp [kindsAt] at h
  | succ d =>
    unfold kindsAt at h
    split at h
    · cases h
    rename_i hi
    obtain ⟨q, hq⟩ : ∃ q, P.info? t = some q := by
      cases hh : P.info? t with
      | none => simp [hh] at hi
      | some q => exact ⟨q, rfl⟩
    have hone : P.cellsOf t = 1 → (l.map toV)[off]? = some (toV (((l.drop off).take (P.cellsOf t)).headD .u)) := by
      intro h1
      rw [h1] at hl ⊢
      rw [List.getElem?_map, List.getElem?_eq_getElem (by omega), List.drop_eq_getElem_cons (by omega), List.take_succ_cons]
      rfl
    have hagg : ((l.map toV).toArray.extract off (off + P.cellsOf t)) = (((l.drop off).take (P.cellsOf t)).map toV).toArray := by
      simp [List.extract_eq_take_drop, List.map_take, List.map_drop]
    split at h
    · rename_i hu; split at h
      · rename_i h1; simp [part, isAgg, run_underlying hu, valK, hu, hone h1]
      · cases h
    · rename_i hu; split at h
      · rename_i h1; simp [part, isAgg, run_underlying hu, valK, hu, hone h1]
      · cases h
    · rename_i hu; split at h
      · rename_i h1; simp [part, isAgg, run_underlying hu, valK, hu, hone h1]
      · cases h
    · rename_i n e hu
      simp only [part, Sem.run_bind, run_isAgg' hu, isAggD, Result.andThen_ok, if_true, run_sizeOf w hq, Sem.run_pure, valK, hu, hagg]
    · rename_i fs hu
      simp only [part, Sem.run_bind, run_isAgg' hu, isAggD, Result.andThen_ok, if_true, run_sizeOf w hq, Sem.run_pure, valK, hu, hagg]
    · cases h
theorem equal_k (e : Nat) : ∀ (d : Nat) (t : TypeId) (ks : List Kd) (l m : List AV) (b : Bool), kindsAt P d t = some ks → l.map kd = ks.map some → eqvs l m = some b →
    (Op.equalIn (e + d) t (valK P t l) (valK P t m)).run P w = .ok b w := by
  intro d
  induction d with
  | zero => intro t ks l m b h; simp [kindsAt] at h
  | succ d ih =>
    intro t ks l m b h hk heq
    have hlm := eqvs_len l m b heq
    have hlk : l.length = P.cellsOf t := by rw [← kinds_len _ _ _ h]; have := congrArg List.length hk; simpa using this
    rw [show e + (d + 1) = (e + d) + 1 from rfl]
    have one : ∀ (x y : AV), l = [x] → m = [y] → eqv x y = some b := by
      rintro x y rfl rfl
      simp only [eqvs] at heq
      cases hx : eqv x y with
      | none => rw [hx] at heq; simp [both] at heq
      | some b0 => rw [hx] at heq; simpa [both] using heq
    unfold kindsAt at h
    split at h
    · cases h
    split at h
    · rename_i k hu
      split at h
      · rename_i h1
        cases h
        obtain ⟨x, rfl⟩ := List.length_eq_one_iff.1 (hlk.trans h1)
        obtain ⟨y, rfl⟩ := List.length_eq_one_iff.1 (hlm.symm.trans (hlk.trans h1))
        have hxy := one x y rfl rfl
        cases x <;> simp only [List.map_cons, List.map_nil, kd, List.cons.injEq, Option.some.injEq, reduceCtorEq, and_true] at hk <;> try (cases hk; done)
        cases y <;> simp only [eqv] at hxy <;> try (cases hxy; done)
        rename_i k1 n1 k2 n2
        split at hxy
        · rename_i hkk
          subst hkk
          cases hxy
          simp [valK, hu, toV]
          simp [Op.equalIn, run_underlying hu]
        · cases hxy
      · cases h
    · rename_i hu
      split at h
      · rename_i h1
        cases h
        obtain ⟨x, rfl⟩ := List.length_eq_one_iff.1 (hlk.trans h1)
        obtain ⟨y, rfl⟩ := List.length_eq_one_iff.1 (hlm.symm.trans (hlk.trans h1))
        have hxy := one x y rfl rfl
        cases x <;> simp only [List.map_cons, List.map_nil, kd, List.cons.injEq, Option.some.injEq, reduceCtorEq, and_true] at hk <;> try (cases hk; done)
        cases y <;> simp only [eqv] at hxy <;> try (cases hxy; done)
        cases hxy
        simp [valK, hu, toV, Op.equalIn, run_underlying hu]
      · cases h
    · rename_i hu
      split at h
      · rename_i h1
        cases h
        obtain ⟨x, rfl⟩ := List.length_eq_one_iff.1 (hlk.trans h1)
        obtain ⟨y, rfl⟩ := List.length_eq_one_iff.1 (hlm.symm.trans (hlk.trans h1))
        have hxy := one x y rfl rfl
        cases x <;> simp only [List.map_cons, List.map_nil, kd, List.cons.injEq, Option.some.injEq, reduceCtorEq, and_true] at hk <;> try (cases hk; done)
        cases y <;> simp only [eqv] at hxy <;> try (cases hxy; done)
        cases hxy
        simp [valK, hu, toV, Op.equalIn, run_underlying hu]
      · cases h
    · rename_i n el hu
      split at h
      · rename_i hc
        obtain ⟨hc, hn0⟩ := hc
        have hel : ∃ lk, kindsAt P d el = some lk := by
          obtain ⟨n', rfl⟩ : ∃ n', n = n' + 1 := ⟨n - 1, by omega⟩
          rw [List.replicate_succ] at h
          obtain ⟨lk, _, h1, _⟩ := catK_cons h
          exact ⟨lk, h1⟩
        obtain ⟨lk, hlk1⟩ := hel
        have hinfo : ∃ i, P.info? el = some i := by
          cases d with
          | zero => simp [kindsAt] at hlk1
          | succ d =>
            unfold kindsAt at hlk1
            split at hlk1
            · cases hlk1
            · rename_i hi
              cases hh : P.info? el with
              | none => simp [hh] at hi
              | some q => exact ⟨q, rfl⟩
        obtain ⟨i, hinfo⟩ := hinfo
        have hrep : ∀ (n : Nat) (ks : List Kd), catK (List.replicate n (kindsAt P d el)) = some ks → ks = (List.replicate n lk).flatten := by
          intro n
          induction n with
          | zero => intro ks h; simp [catK] at h; simp [h]
          | succ n ihn =>
            intro ks h
            rw [List.replicate_succ] at h
            obtain ⟨l1, m1, h1, h2, rfl⟩ := catK_cons h
            rw [hlk1] at h1
            cases h1
            rw [List.replicate_succ, List.flatten_cons, ← ihn m1 h2]
        have hks := hrep n ks h
        have hll := kinds_len _ _ _ hlk1
        have key : ∀ (r k : Nat) (l' m' : List AV) (b : Bool), k * P.cellsOf el ≤ l.length → l.drop (k * P.cellsOf el) = l' → m.drop (k * P.cellsOf el) = m' → l'.map kd = ((List.replicate r lk).flatten).map some → eqvs l' m' = some b →
            (Op.eqItems (e + d) el (P.cellsOf el) (l.map toV).toArray (m.map toV).toArray (List.range' k r)).run P w = .ok b w := by
          intro r
          induction r with
          | zero =>
            intro k l' m' b h0 h1 h2 h3 h4
            have : l' = [] := by simpa using h3
            subst this
            cases m' with
            | nil => simp only [eqvs, Option.some.injEq] at h4; subst h4; simp [Op.eqItems]
            | cons => simp [eqvs] at h4
          | succ r ihr =>
            intro k l' m' b h0 h1 h2 h3 h4
            have hlen' : l'.length = (r + 1) * P.cellsOf el := by have := congrArg List.length h3; simp [hll] at this; simpa using this
            have hlen2 := eqvs_len _ _ _ h4
            have hs1 : P.cellsOf el ≤ l'.length := by rw [hlen', Nat.succ_mul]; omega
            obtain ⟨b1, b2, q1, q2, rfl⟩ := eqvs_append (l'.take (P.cellsOf el)) (m'.take (P.cellsOf el)) (l'.drop (P.cellsOf el)) (m'.drop (P.cellsOf el)) b (by simp; omega) (by rw [List.take_append_drop, List.take_append_drop]; exact h4)
            have hkk : (l'.take (P.cellsOf el)).map kd = lk.map some ∧ (l'.drop (P.cellsOf el)).map kd = ((List.replicate r lk).flatten).map some := by
              rw [List.replicate_succ, List.flatten_cons, List.map_append] at h3
              rw [List.map_take, List.map_drop, h3]
              have : P.cellsOf el = (lk.map some).length := by simp [hll]
              rw [this]
              simp
            have e1 : (k + 1) * P.cellsOf el = k * P.cellsOf el + P.cellsOf el := Nat.succ_mul _ _
            have hlk1' : k * P.cellsOf el + P.cellsOf el ≤ l.length := by have := congrArg List.length h1; simp at this; omega
            have hmk1' : k * P.cellsOf el + P.cellsOf el ≤ m.length := by omega
            rw [List.range'_succ]
            simp only [Op.eqItems, Sem.run_bind, part_k w hlk1 l _ hlk1', part_k w hlk1 m _ hmk1', Result.andThen_ok]
            rw [h1, h2, ih el lk _ _ b1 hlk1 hkk.1 q1]
            have := ihr (k + 1) (l'.drop (P.cellsOf el)) (m'.drop (P.cellsOf el)) b2 (by omega) (by rw [e1, ← List.drop_drop, h1]) (by rw [e1, ← List.drop_drop, h2]) hkk.2 q2
            cases b1
            · simp
            · simpa using this
        have hk' := key n 0 l m b (by simp) (by simp) (by simp) (by rw [hk, hks]) heq
        simp only [valK, hu]
        rw [run_equalIn_array w (e + d) (l.map toV).toArray (m.map toV).toArray hu hinfo, List.range_eq_range', hk']
      · cases h
    · rename_i fs hu
      split at h
      · rename_i hc
        simp only [Bool.and_eq_true, Bool.not_eq_true'] at hc
        have key : ∀ (fl : List Field) (off : Nat) (ks : List Kd) (l' m' : List AV) (b : Bool), tilesK P off (P.cellsOf t) fl = true → catK (fl.map fun f => kindsAt P d f.type) = some ks → off ≤ l.length → l.drop off = l' → m.drop off = m' →
            l'.map kd = ks.map some → eqvs l' m' = some b → (Op.eqFields (e + d) (l.map toV).toArray (m.map toV).toArray fl).run P w = .ok b w := by
          intro fl
          induction fl with
          | nil =>
            intro off ks l' m' b h1 h2 h0 h3 h4 h5 h6
            simp only [List.map_nil, catK, Option.some.injEq] at h2
            subst h2
            have : l' = [] := by simpa using h5
            subst this
            cases m' with
            | nil => simp only [eqvs, Option.some.injEq] at h6; subst h6; simp [Op.eqFields]
            | cons => simp [eqvs] at h6
          | cons f fl ihf =>
            intro off ks l' m' b h1 h2 h0 h3 h4 h5 h6
            simp only [tilesK, Bool.and_eq_true, beq_iff_eq, bne_iff_ne, ne_eq] at h1
            obtain ⟨⟨ho, hnm⟩, h1⟩ := h1
            obtain ⟨lk, mk, g1, g2, rfl⟩ := catK_cons h2
            have hll := kinds_len _ _ _ g1
            have hlen' : l'.length = P.cellsOf f.type + mk.length := by have := congrArg List.length h5; simp [hll] at this; omega
            have hlen2 := eqvs_len _ _ _ h6
            obtain ⟨b1, b2, q1, q2, rfl⟩ := eqvs_append (l'.take (P.cellsOf f.type)) (m'.take (P.cellsOf f.type)) (l'.drop (P.cellsOf f.type)) (m'.drop (P.cellsOf f.type)) b (by simp; omega) (by rw [List.take_append_drop, List.take_append_drop]; exact h6)
            have hkk : (l'.take (P.cellsOf f.type)).map kd = lk.map some ∧ (l'.drop (P.cellsOf f.type)).map kd = mk.map some := by
              rw [List.map_append] at h5
              rw [List.map_take, List.map_drop, h5]
              have : P.cellsOf f.type = (lk.map some).length := by simp [hll]
              rw [this]
              simp
            have hlk1' : off + P.cellsOf f.type ≤ l.length := by have := congrArg List.length h3; simp at this; omega
            have hmk1' : off + P.cellsOf f.type ≤ m.length := by omega
            simp only [Op.eqFields, ne_eq, hnm, not_false_eq_true, if_true, ho, Sem.run_bind, part_k w g1 l _ hlk1', part_k w g1 m _ hmk1', Result.andThen_ok]
            rw [h3, h4, ih f.type lk _ _ b1 g1 hkk.1 q1]
            have := ihf (off + P.cellsOf f.type) mk (l'.drop (P.cellsOf f.type)) (m'.drop (P.cellsOf f.type)) b2 h1 g2 (by omega) (by rw [← List.drop_drop, h3]) (by rw [← List.drop_drop, h4]) hkk.2 q2
            cases b1
            · simp
            · simpa using this
        have hfs : P.fieldsOf t = fs := by simp [Program.fieldsOf, hu]
        have hk' := key fs.toList 0 ks l m b hc.2 h (by simp) (by simp) (by simp) hk heq
        simp only [valK, hu]
        rw [run_equalIn_struct w (e + d) t (l.map toV).toArray (m.map toV).toArray (by rw [hfs]; exact hu) (by simpa using hc.1), hfs, hk']
      · cases h
    · cases h
end
end Go.Proofs.Ytebflegkdfhoaaa.AE
