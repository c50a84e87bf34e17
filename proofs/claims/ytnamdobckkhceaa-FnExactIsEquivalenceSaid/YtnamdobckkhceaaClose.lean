/- Contracts and laws: CloseRel, IsEquivalence. -/
import Derived.Test.YtnamdobckkhceaaComp
import Derived.ChangeKeysEq
import Derived.Laws.StructEq
namespace Go.Proofs.Ytnamdobckkhceaa.Cl
open Go.RowKit Go.Deep Go.Proofs.Ytnamdobckkhceaa.Bi Go.Proofs.Ytnamdobckkhceaa.Ro Go.Proofs.Ytnamdobckkhceaa.Se Go.Proofs.Ytnamdobckkhceaa.Mk Go.Proofs.Ytnamdobckkhceaa.Rl Go.Proofs.Ytnamdobckkhceaa.Nu Go.Proofs.Ytnamdobckkhceaa.Tu Go.Proofs.Ytnamdobckkhceaa.Tl Go.Proofs.Ytnamdobckkhceaa.Cp
set_option linter.unusedVariables false

/-! ### Plain -/
def Eq27 (R S : Nat → Nat → Bool) : Prop := ∀ i j, i < 27 → j < 27 → R i j = S i j
theorem Eq27.symm {R S : Nat → Nat → Bool} (h : Eq27 R S) : Eq27 S R := fun i j hi hj => (h i j hi hj).symm
theorem Eq27.trans {R S T : Nat → Nat → Bool} (h : Eq27 R S) (h' : Eq27 S T) : Eq27 R T := fun i j hi hj => (h i j hi hj).trans (h' i j hi hj)
def sq (R : Nat → Nat → Bool) : Nat → Nat → Bool := fun i j => joinB R R i 27 j
theorem sq_congr {R S : Nat → Nat → Bool} (h : Eq27 R S) : Eq27 (sq R) (sq S) := by
  intro i j hi hj
  unfold sq joinB
  rw [Bool.eq_iff_iff, List.any_eq_true, List.any_eq_true]
  constructor
  · rintro ⟨v, hv, e⟩
    have hv' : v < 27 := by simpa using hv
    exact ⟨v, hv, by rw [← h i v hi hv', ← h v j hv' hj]; exact e⟩
  · rintro ⟨v, hv, e⟩
    have hv' : v < 27 := by simpa using hv
    exact ⟨v, hv, by rw [h i v hi hv', h v j hv' hj]; exact e⟩
def Refl27 (R : Nat → Nat → Bool) : Prop := ∀ i, i < 27 → R i i = true
theorem sq_more {R : Nat → Nat → Bool} (hr : Refl27 R) {i j : Nat} (hi : i < 27) (hj : j < 27) (h : R i j = true) : sq R i j = true := join_true (k := j) hj h (hr j hj)
theorem sq_refl {R : Nat → Nat → Bool} (hr : Refl27 R) : Refl27 (sq R) := fun i hi => sq_more hr hi hi (hr i hi)
/-- How many of the first n pairs. -/
def cntP (R : Nat → Nat → Bool) : Nat → Nat
  | 0 => 0
  | n + 1 => cntP R n + if R (n / 27) (n % 27) then 1 else 0
theorem cnt_le (R : Nat → Nat → Bool) : ∀ n, cntP R n ≤ n
  | 0 => Nat.le_refl _
  | n + 1 => by unfold cntP; have := cnt_le R n; split <;> omega
theorem cnt_congr {R S : Nat → Nat → Bool} (h : Eq27 R S) : ∀ n, n ≤ 729 → cntP R n = cntP S n
  | 0, _ => rfl
  | n + 1, hn => by unfold cntP; rw [cnt_congr h n (by omega), h (n / 27) (n % 27) (by omega) (by omega)]
theorem cnt_mono {R S : Nat → Nat → Bool} (h : ∀ i j, i < 27 → j < 27 → R i j = true → S i j = true) : ∀ n, n ≤ 729 → cntP R n ≤ cntP S n
  | 0, _ => Nat.le_refl _
  | n + 1, hn => by
    unfold cntP
    have h1 := cnt_mono h n (by omega)
    have h2 := h (n / 27) (n % 27) (by omega) (by omega)
    by_cases hR : R (n / 27) (n % 27) = true
    · rw [if_pos hR, if_pos (h2 hR)]; omega
    · rw [if_neg hR]; split <;> omega
theorem cnt_lt {R S : Nat → Nat → Bool} (h : ∀ i j, i < 27 → j < 27 → R i j = true → S i j = true) {i j : Nat} (hi : i < 27) (hj : j < 27) (h0 : R i j = false) (h1 : S i j = true) : ∀ n, n ≤ 729 → 27 * i + j < n → cntP R n < cntP S n
  | 0, _, h => by omega
  | n + 1, hn, hx => by
    unfold cntP
    have h2 := h (n / 27) (n % 27) (by omega) (by omega)
    by_cases e : 27 * i + j = n
    · have ei : n / 27 = i := by omega
      have ej : n % 27 = j := by omega
      rw [ei, ej, h0, h1]
      have := cnt_mono h n (by omega)
      simp only [if_true, Bool.false_eq_true, if_false]
      omega
    · have h3 := cnt_lt h hi hj h0 h1 n (by omega) (by omega)
      by_cases hR : R (n / 27) (n % 27) = true
      · rw [if_pos hR, if_pos (h2 hR)]; omega
      · rw [if_neg hR]; split <;> omega
theorem cnt_grow {R : Nat → Nat → Bool} (hr : Refl27 R) (h : ¬ Eq27 (sq R) R) : cntP R 729 < cntP (sq R) 729 := by
  have : ∃ i j, i < 27 ∧ j < 27 ∧ sq R i j ≠ R i j := Classical.byContradiction fun hn => h fun i j hi hj => Classical.byContradiction fun he => hn ⟨i, j, hi, hj, he⟩
  obtain ⟨i, j, hi, hj, hne⟩ := this
  have hm : ∀ i j, i < 27 → j < 27 → R i j = true → sq R i j = true := fun i j hi hj => sq_more hr hi hj
  cases hR : R i j with
  | true => rw [hm i j hi hj hR, hR] at hne; exact absurd rfl hne
  | false =>
    cases hS : sq R i j with
    | true => exact cnt_lt hm hi hj hR hS 729 (Nat.le_refl _) (by omega)
    | false => rw [hS, hR] at hne; exact absurd rfl hne
def it (R : Nat → Nat → Bool) : Nat → Nat → Nat → Bool
  | 0 => R
  | k + 1 => sq (it R k)
theorem it_refl {R : Nat → Nat → Bool} (h : Refl27 R) : ∀ k, Refl27 (it R k)
  | 0 => h
  | k + 1 => sq_refl (it_refl h k)
theorem it_stable {R : Nat → Nat → Bool} {k : Nat} (h : Eq27 (it R (k + 1)) (it R k)) : ∀ m, Eq27 (it R (k + m)) (it R k)
  | 0 => fun _ _ _ _ => rfl
  | m + 1 => (show Eq27 (sq (it R (k + m))) (sq (it R k)) from sq_congr (it_stable h m)).trans h
/-- The closed relation. -/
def clo (R : Nat → Nat → Bool) : Nat → Nat → Bool := it R 729
theorem clo_of {R : Nat → Nat → Bool} {k : Nat} (h : Eq27 (it R (k + 1)) (it R k)) (hk : k ≤ 729) : Eq27 (it R k) (clo R) := by
  have := it_stable h (729 - k)
  rw [show k + (729 - k) = 729 by omega] at this
  exact this.symm
theorem relT_relS (R : Nat → Nat → Bool) {i j : Nat} (hi : i < 27) (hj : j < 27) : relT (relS R 27) i j = R i j := by
  have h1 : 27 * i + j < 27 * 27 := by omega
  unfold relT one relS
  rw [mk_at _ _ _ h1, show (27 * i + j) / 27 = i by omega, show (27 * i + j) % 27 = j by omega]
  cases R i j <;> rfl
theorem relS_congr {R S : Nat → Nat → Bool} (h : Eq27 R S) : relS R 27 = relS S 27 := mk_congr fun i hi => by rw [h (i / 27) (i % 27) (by omega) (by omega)]
theorem relS_inj {R S : Nat → Nat → Bool} (h : relS R 27 = relS S 27) : Eq27 R S := fun i j hi hj => by rw [← relT_relS R hi hj, h, relT_relS S hi hj]
theorem arrR_congr {R S : Nat → Nat → Bool} (h : Eq27 R S) : arrR R = arrR S := by
  unfold arrR arr
  congr 2
  unfold cellsOf
  refine List.map_congr_left fun i hi => ?_
  have hi' : i < 27 := by simpa using hi
  show Value.int .i64 (msk (R i) 27 : Int) = Value.int .i64 (msk (S i) 27 : Int)
  rw [msk_congr fun j hj => h i j hi' hj]
theorem sq_of_text {r : ByteArray} {R : Nat → Nat → Bool} (h : r = relS R 27) : relS (fun i j => joinB (relT r) (relT r) i 27 j) 27 = relS (sq R) 27 := by
  subst h
  exact relS_congr (sq_congr (R := relT (relS R 27)) (S := R) fun i j hi hj => relT_relS R hi hj)
/-- A relation with each state related to itself. -/
def withId (R : Nat → Nat → Bool) : Nat → Nat → Bool := fun i j => decide (i = j) || R i j
theorem id_refl (R : Nat → Nat → Bool) : Refl27 (withId R) := fun i _ => by simp [withId]
def strOf : Value → ByteArray
  | .string s => s
  | _ => ⟨#[]⟩
theorem ne_list {a b : ByteArray} (h : a ≠ b) : (a.toList == b.toList) = false := by
  rw [beq_eq_false_iff_ne, ByteArray.toList_eq, ByteArray.toList_eq]
  intro e
  exact h (by cases a; cases b; congr 1; exact Array.toList_inj.1 e)
def closeV (r : ByteArray) : Option ByteArray := if bitsB r 729 then some (relS (clo (withId (relT r))) 27) else none
theorem tells_id (r : ByteArray) (w : World) (b : Nat) (hc : w.cell? ⟨b, 0, none⟩ = some (.string r)) (hs : r.size = 729) : Tells2 56 #[.pointer (some ⟨b, 0, none⟩)] (withId (relT r)) w := by
  intro i j hi hj W hb
  have c1 := (hb.cell (p := ⟨b, 0, none⟩) (block_lt_of_cell hc)).trans hc
  have HP := Lib.hid (fun w => implPair r i j w hs hi hj)
  show Calls Try.prog 56 #[.int .i64 (i : Int), .int .i64 (j : Int), .pointer (some ⟨b, 0, none⟩)] W _
  clear hc hb
  by_cases e : i = j
  · subst e
    have HV := Lib.hid (show withId (relT r) i i = true by simp [withId])
    go_enter Try.func56, Try.ntmps56
    go_wp2_with fail
    go_ret
    exact ⟨by rw [HV.out]; rfl, Below.refl _ _⟩
  · have HV := Lib.hid (show withId (relT r) i j = one r (27 * i + j) by simp [withId, e, relT])
    have g : ((i : Int) == (j : Int)) = false := by simp; omega
    obtain ⟨x, hx⟩ : ∃ x, one r (27 * i + j) = x := ⟨_, rfl⟩
    rw [hx] at HV HP
    clear hx e
    go_enter Try.func56, Try.ntmps56
    go_wp2_with fail
    refine (HP.out _).mono ?_
    rintro e w1 ⟨rfl, rfl⟩
    go_wp2_with fail
    go_ret
    exact ⟨by rw [HV.out]; rfl, Below.refl _ _⟩
set_option maxRecDepth 100000 in
set_option maxHeartbeats 1000000 in
theorem implCloseRel (r : ByteArray) (w : World) (hr : r.size ≤ 1048576) : Calls Try.prog 27 #[.string r] w fun e w' => e = .returned (strV (closeV r)) ∧ Below w.heap.size w w' := by
  have hr' : r.size ≤ maxLen := by unfold maxLen; omega
  have HV := Lib.hid (fun w => implRelValid r w hr')
  have hb0 : Below w.heap.size w (w.alloc (.cells #[.string r] 9)) := (Below.refl _ w).alloc (Nat.le_refl _) _
  have HB0 := Lib.hid hb0
  clear hb0
  cases h : bitsB r 729 with
  | false =>
    have H := Lib.hid (show closeV r = none by simp [closeV, h])
    rw [h] at HV
    clear h
    go_enter Try.func27, Try.ntmps27
    go_wp2_with fail
    refine (HV.out _).mono ?_
    rintro e w1 ⟨rfl, rfl⟩
    go_wp2_with fail
    exact bodyPost_ret (v := .tuple #[.string ⟨#[]⟩, .bool false]) (by simp [results, Try.results27, go_sem]) rfl ⟨by rw [H.out]; rfl, HB0.out⟩
  | true =>
    have H := Lib.hid (show closeV r = some _ by simp only [closeV, h]; rfl)
    rw [h] at HV
    have HT := Lib.hid (tells_id r (w.alloc (.cells #[.string r] 9)) w.heap.size (by simp [World.cell?_alloc_at]) (by have := bits_size h; omega))
    have HM := Lib.hid (makeRel 56 #[.pointer (some ⟨w.heap.size, 0, none⟩)] _ _ (fun _ _ => by simp [go_sem]) HT.out)
    have HR := Lib.hid (id_refl (relT r))
    obtain ⟨R, hR⟩ : ∃ R, withId (relT r) = R := ⟨_, rfl⟩
    rw [hR] at H HM HR
    obtain ⟨s0, hs0⟩ : ∃ s, relS R 27 = s := ⟨_, rfl⟩
    rw [hs0] at HM
    have HS0 := Lib.hid hs0
    clear h HT hR hs0
    go_enter Try.func27, Try.ntmps27
    go_wp2_with fail
    refine (HV.out _).mono ?_
    rintro e w1 ⟨rfl, rfl⟩
    go_wp2_with fail
    refine (HM.out).mono ?_
    rintro e w2 ⟨rfl, hb2⟩
    have HB2 := Lib.hid (HB0.out.trans (hb2.mono (by simp)))
    clear hb2
    go_wp2_with fail
    go_loopw [4, 5] (fun now next wr => ∃ (k : Nat) (s : ByteArray), now = .string s ∧ Hid (s = relS (it R k) 27 ∧ k ≤ cntP (it R k) 729) ∧ Below w.heap.size w wr) (fun now _ _ => 729 - cntP (relT (strOf now)) 729)
    case atStart => exact ⟨0, s0, rfl, Lib.hid ⟨HS0.out.symm, Nat.zero_le _⟩, HB2.out⟩
    case round =>
      obtain ⟨k, s, rfl, HK, hb⟩ := hrel
      have HB := Lib.hid hb
      have HX := Lib.hid (fun w => implComposed s s w (by rw [HK.out.1, relS_size]) (by rw [HK.out.1, relS_size]))
      rw [sq_of_text HK.out.1] at HX
      obtain ⟨t, ht⟩ : ∃ t, relS (sq (it R k)) 27 = t := ⟨_, rfl⟩
      rw [ht] at HX
      have HTT := Lib.hid ht
      have hz1 : s.size ≤ 729 := by rw [HK.out.1, relS_size]; omega
      clear hb ht
      by_cases he : t = s
      · subst he
        have HE := Lib.hid (show Eq27 (it R (k + 1)) (it R k) from relS_inj (HTT.out.trans HK.out.1))
        have HRES := Lib.hid (show closeV r = some t by rw [H.out, HK.out.1, relS_congr (clo_of HE.out (Nat.le_trans HK.out.2 (cnt_le _ _)))])
        go_wp2_with fail
        refine (HX.out _).mono ?_
        rintro e w3 ⟨rfl, hb3⟩
        have HB3 := Lib.hid (HB.out.trans (hb3.mono HB.out.size))
        clear hb3
        go_wp2_with fail
        exact bodyPost_ret (v := .tuple #[.string t, .bool true]) (by simp [results, Try.results27, go_sem]) rfl ⟨by rw [HRES.out]; rfl, HB3.out⟩
      · have hne := ne_list he
        have HG := Lib.hid (show cntP (it R k) 729 < cntP (it R (k + 1)) 729 from cnt_grow (it_refl HR.out k) (fun h => he (by rw [← HTT.out, HK.out.1]; exact relS_congr h)))
        clear he
        go_wp2_with fail
        refine (HX.out _).mono ?_
        rintro e w3 ⟨rfl, hb3⟩
        have HB3 := Lib.hid (HB.out.trans (hb3.mono HB.out.size))
        clear hb3
        go_wp2_with fail
        go_roundw
        case rel => exact ⟨k + 1, t, rfl, Lib.hid ⟨HTT.out.symm, by have h1 := HG.out; have h2 := HK.out.2; omega⟩, HB3.out⟩
        case measure =>
          show 729 - cntP (relT t) 729 < 729 - cntP (relT s) 729
          have h1 := HG.out
          have h2 := cnt_le (it R (k + 1)) 729
          have e1 : cntP (relT s) 729 = cntP (it R k) 729 := by rw [HK.out.1]; exact cnt_congr (fun i j hi hj => relT_relS (it R k) hi hj) 729 (Nat.le_refl _)
          have e2 : cntP (relT t) 729 = cntP (it R (k + 1)) 729 := by rw [← HTT.out]; exact cnt_congr (fun i j hi hj => relT_relS (sq (it R k)) hi hj) 729 (Nat.le_refl _)
          omega
theorem row_over {b t n : Nat} : ∀ (vs : List Value) (o : Nat) (w : World) (f : Nat → Value), w.rowIs b t n f → (w.setCells b o vs).rowIs b t n (fun i => if o ≤ i then (vs[i - o]?).getD (f i) else f i)
  | [], o, w, f, h => h.congr fun i _ => by simp
  | v :: vs, o, w, f, h => (row_over vs (o + 1) _ _ (h.set o v)).congr fun i _ => by
      by_cases e : i = o
      · subst e; simp; intro h; omega
      · by_cases h1 : o ≤ i
        · rw [if_pos h1, if_pos (by omega), show i - o = (i - (o + 1)) + 1 by omega]; simp [e]
        · rw [if_neg h1, if_neg (by omega)]; simp [e]
theorem row_full {b t : Nat} {w : World} {f : Nat → Value} (g : Nat → Nat) (h : w.rowIs b t 27 f) : (w.setCells b 0 (cellsOf g)).rowIs b t 27 (fun i => .int .i64 (g i : Int)) :=
  (row_over (cellsOf g) 0 w f h).congr fun i hi => by simp [cells_at g hi]
theorem row_zeros {b t : Nat} {w : World} {f : Nat → Value} (h : w.rowIs b t 27 f) : (w.setCells b 0 zero27.toList).rowIs b t 27 (fun _ => .int .i64 0) :=
  (row_over zero27.toList 0 w f h).congr fun i hi => by
    have hl : zero27.toList.length = 27 := by simp [zero27]
    have h1 : zero27.toList[i]? = some (zero27.toList[i]'(by omega)) := List.getElem?_eq_getElem (by omega)
    simp only [Nat.zero_le, if_true, Nat.sub_zero, h1, Option.getD_some]
    exact zero_all i _ h1
theorem id_mask (R : Nat → Nat → Bool) {k : Nat} (hk : k < 27) : bits .or .i64 (msk (R k) 27 : Int) (wrap64 (2 ^ k)) = (msk (withId R k) 27 : Int) := by
  rw [pow_i64 hk, or_i64 (msk27_lt _ (Nat.le_refl _)) (pow_lt hk)]
  congr 1
  refine msk_ext fun i => ?_
  rw [Nat.testBit_or, msk_bit, msk_bit, Nat.testBit_two_pow]
  unfold withId
  by_cases e : k = i
  · subst e; simp [hk]
  · simp [e]
/-- The rows of a relation, the first k with each state related to itself. -/
def idN (R : Nat → Nat → Bool) (k i : Nat) : Nat := if i < k then msk (withId R i) 27 else msk (R i) 27
theorem id_set {w : World} {b t : Nat} {R : Nat → Nat → Bool} {k : Nat} (h : w.rowIs b t 27 (fun i => .int .i64 (idN R k i : Int))) {v : Value} (hv : v = .int .i64 (msk (withId R k) 27 : Int)) :
    (w.setCell ⟨b, k, none⟩ v).rowIs b t 27 (fun i => .int .i64 (idN R (k + 1) i : Int)) := (h.set k v).congr fun i _ => by
  subst hv
  by_cases e : i = k
  · subst e; simp [idN]
  · simp only [if_neg e]
    have : idN R k i = idN R (k + 1) i := by
      unfold idN
      by_cases h1 : i < k
      · rw [if_pos h1, if_pos (by omega)]
      · rw [if_neg h1, if_neg (by omega)]
    rw [this]
/-- What 'before' holds ahead of the k-th round. -/
def bf (R : Nat → Nat → Bool) : Nat → Nat → Nat → Bool
  | 0 => fun _ _ => false
  | k + 1 => it R k
theorem bf_grow {R : Nat → Nat → Bool} (hr : Refl27 R) : ∀ k, ¬ Eq27 (bf R k) (it R k) → cntP (bf R k) 729 < cntP (it R k) 729
  | 0, _ => cnt_lt (fun i j _ _ h => by cases h) (i := 0) (j := 0) (by omega) (by omega) rfl (hr 0 (by omega)) 729 (Nat.le_refl _) (by omega)
  | k + 1, h => cnt_grow (it_refl hr k) fun e => h e.symm
theorem bf_end {R : Nat → Nat → Bool} (hr : Refl27 R) : ∀ k, Eq27 (bf R k) (it R k) → k ≤ 729 → Eq27 (it R k) (clo R)
  | 0, h, _ => by have := h 0 0 (by omega) (by omega); rw [show it R 0 = R from rfl, hr 0 (by omega)] at this; cases this
  | k + 1, h, hk => h.symm.trans (clo_of h.symm (by omega))
def rdM (wr : World) (bp : Value) (i j : Nat) : Bool := match bp with
  | .pointer (some a) => (match wr.cell? ⟨a.block, i, none⟩ with
    | some (.int _ m) => m.toNat.testBit j
    | _ => false)
  | _ => false
theorem rd_row {wr : World} {b t : Nat} {S : Nat → Nat → Bool} (h : wr.rowIs b t 27 (fun i => .int .i64 (msk (S i) 27 : Int))) : Eq27 (rdM wr (.pointer (some ⟨b, 0, none⟩))) S := fun i j hi hj => by
  simp only [rdM, h.cell hi, Int.toNat_natCast]
  exact in_msk hj
theorem msk_all {R S : Nat → Nat → Bool} (h : Eq27 R S) : ((List.range 27).all fun i => msk (R i) 27 == msk (S i) 27) = true := by
  rw [List.all_eq_true]
  intro i hi
  have hi' : i < 27 := by simpa using hi
  rw [beq_iff_eq]
  exact msk_congr fun j hj => h i j hi' hj
theorem msk_not {R S : Nat → Nat → Bool} (h : ¬ Eq27 R S) : ((List.range 27).all fun i => msk (R i) 27 == msk (S i) 27) = false := by
  rw [← Bool.not_eq_true, List.all_eq_true]
  intro hall
  refine h fun i j hi hj => ?_
  have := hall i (by simpa using hi)
  rw [beq_iff_eq] at this
  rw [← in_msk (f := R i) hj, this, in_msk hj]
theorem arr_eq (g q : Nat → Nat) (w : World) : (Op.equalIn 10000 39 (.agg (cellsOf g).toArray) (.agg (cellsOf q).toArray)).run Try.prog w = .ok ((List.range 27).all fun i => g i == q i) w := by
  have hu : Try.prog.underlying 39 = some (.array 27 3) := by kernel_rfl
  obtain ⟨inf, hi⟩ : ∃ i, Try.prog.info? 3 = some i := info_of_underlying (Try.underlying3)
  rw [show (10000 : Nat) = 9999 + 1 from rfl, run_equalIn_array w 9999 _ _ hu hi]
  have hc : Try.prog.cellsOf 3 = 1 := by kernel_rfl
  rw [hc]
  have key : ∀ is : List Nat, (∀ i ∈ is, i < 27) → (Op.eqItems 9999 3 1 (cellsOf g).toArray (cellsOf q).toArray is).run Try.prog w = .ok (is.all fun i => g i == q i) w := by
    intro is
    induction is with
    | nil => intro _; simp [Op.eqItems]
    | cons i is ih =>
      intro hm
      have hlt := hm i (by simp)
      have p1 : ∀ f : Nat → Nat, (part 3 (cellsOf f).toArray (i * 1)).run Try.prog w = .ok (.int .i64 (f i : Int)) w := by
        intro f
        exact run_part_plain w (by kernel_rfl) (show ((cellsOf f).toArray)[i * 1]? = some _ by rw [Nat.mul_one]; simpa using cells_at f hlt)
      simp only [Op.eqItems, Sem.run_bind, p1, Result.andThen_ok, run_equalIn_int w 9998 3 .i64 .i64 _ _ Try.underlying3]
      have hb : ((g i : Int) == (q i : Int)) = (g i == q i) := by
        rw [Bool.eq_iff_iff]; simp only [beq_iff_eq]; omega
      rw [hb]
      cases e : (g i == q i) with
      | true => simp [e, ih fun j hj => hm j (by simp [hj])]
      | false => simp [e]
  exact key _ fun i hi => by simpa using hi
set_option maxRecDepth 100000 in
set_option maxHeartbeats 1000000 in
theorem specCloseRel (r : ByteArray) (w : World) (hr : r.size ≤ 1048576) : Calls Try.prog 26 #[.string r] w fun e w' => e = .returned (strV (closeV r)) ∧ Below w.heap.size w w' := by
  have hr' : r.size ≤ maxLen := by unfold maxLen; omega
  have HV := Lib.hid (fun w => specRelValid r w hr')
  cases h : bitsB r 729 with
  | false =>
    have H := Lib.hid (show closeV r = none by simp [closeV, h])
    rw [h] at HV
    clear h
    go_enter Try.func26, Try.ntmps26
    go_wp2_with fail
    refine (HV.out _).mono ?_
    rintro e w1 ⟨rfl, rfl⟩
    go_wp2_with fail
    exact bodyPost_ret (v := .tuple #[.string ⟨#[]⟩, .bool false]) (by simp [results, Try.results26, go_sem]) rfl ⟨by rw [H.out]; rfl, Below.refl _ _⟩
  | true =>
    have H := Lib.hid (show closeV r = some _ by simp only [closeV, h]; rfl)
    rw [h] at HV
    have HR := Lib.hid (fun w => specRead r w (by have := bits_size h; omega))
    unfold arrR arr at HR
    have HRR := Lib.hid (id_refl (relT r))
    obtain ⟨R0, hR0⟩ : ∃ R, relT r = R := ⟨_, rfl⟩
    rw [hR0] at H HR HRR
    obtain ⟨c0, hc0⟩ : ∃ c, cellsOf (fun i => msk (R0 i) 27) = c := ⟨_, rfl⟩
    have hlen : c0.length = 27 := by rw [← hc0, cells_len]
    rw [hc0] at HR
    have HC0 := Lib.hid hc0
    have hin := Lib.hid (show (Try.prog.info? 39).map (·.size) = some c0.toArray.size by simpa [hlen] using info39)
    have hone := Lib.hid (show (c0.toArray).all (·.oneCell') = true by rw [← hc0]; exact all_oneCell_toArray (cells_one _))
    have HLEN := Lib.hid hlen
    clear h hR0 hc0 hlen
    go_enter Try.func26, Try.ntmps26
    go_wp2_with fail
    refine (HV.out _).mono ?_
    rintro e w1 ⟨rfl, rfl⟩
    go_wp2_with fail
    refine (HR.out _).mono ?_
    rintro e w2 ⟨rfl, hb2⟩
    have HB2 := Lib.hid hb2
    have hth := Lib.hid (show (w2.alloc (.cells zero27 39)).there w2.heap.size 0 c0.toArray.size by rw [show c0.toArray.size = 27 by simpa using HLEN.out]; exact row_there (row_zero27 w2 39))
    clear hb2
    go_wp2_with (refine wpList_store_mid rfl 39 (.tmp 4) (.tmp 11) rfl w2.heap.size 0 c0.toArray rfl rfl hth.out hin.out hone.out ?_)
    refine wp_world (fun W => W.rowIs w2.heap.size 39 27 (fun i => .int .i64 (idN R0 0 i : Int)) ∧ Below w.heap.size w W) ⟨?_, ?_⟩ ?_
    · have := row_full (fun i => msk (R0 i) 27) (row_zero27 w2 39)
      rw [HC0.out] at this
      exact this.congr fun i _ => by simp [idN]
    · exact below_cells HB2.out.size c0 0 _ (HB2.out.alloc HB2.out.size _)
    rintro W0 ⟨r0, b0⟩
    obtain ⟨N, hN⟩ : ∃ N, w2.heap.size = N := ⟨_, rfl⟩
    have hNle : w.heap.size ≤ N := by rw [← hN]; exact HB2.out.size
    rw [hN] at r0 ⊢
    clear HB2 hth hN hin hone HC0 HLEN HR HV
    go_loopw [5] (fun i wr => ∃ k : Nat, k ≤ 27 ∧ i = .int .i64 k ∧ wr.rowIs N 39 27 (fun i => .int .i64 (idN R0 k i : Int)) ∧ Below w.heap.size w wr) (fun i _ => 27 - (intOf i).toNat)
    case atStart => exact ⟨0, Nat.zero_le _, rfl, r0, b0⟩
    case round =>
      clear r0 b0
      obtain ⟨k, hk, rfl, hrow, hb⟩ := hrel
      by_cases hlt : k < 27
      · have hc2 := hrow.cell hlt
        rw [show idN R0 k k = msk (R0 k) 27 by simp [idN]] at hc2
        have hfz := hrow.frozen k
        have hnew := id_mask R0 hlt
        have HS := Lib.hid (id_set hrow (v := .int .i64 (msk (withId R0 k) 27 : Int)) rfl)
        have HB := Lib.hid (hb.setCell (p := ⟨N, k, none⟩) hNle (.int .i64 (msk (withId R0 k) 27 : Int)))
        obtain ⟨m0, hm0⟩ : ∃ m, msk (R0 k) 27 = m := ⟨_, rfl⟩
        obtain ⟨m1, hm1⟩ : ∃ m, msk (withId R0 k) 27 = m := ⟨_, rfl⟩
        rw [hm0] at hc2 hnew
        rw [hm1] at hnew HS HB
        clear hrow hb hm0 hm1
        go_wp2_with fail
        go_roundw
        case rel => exact ⟨k + 1, by omega, by go_num, HS.out, HB.out⟩
        case measure => simp [intOf]; omega
      · obtain rfl : k = 27 := by omega
        obtain ⟨R, hR⟩ : ∃ R, withId R0 = R := ⟨_, rfl⟩
        have hrow1 : wr.rowIs N 39 27 (fun i => .int .i64 (msk (R i) 27 : Int)) := hrow.congr fun i hi => by rw [← hR]; simp [idN, hi]
        rw [hR] at H HRR
        have HROW := Lib.hid hrow1
        have HB := Lib.hid hb
        have hNlt : N < wr.heap.size := hrow.lt
        have hone := Lib.hid zero_one
        have hth := Lib.hid (show (wr.alloc (.cells zero27 39)).there wr.heap.size 0 27 from row_there (row_zero27 wr 39))
        clear hrow hrow1 hb hR
        go_wp2_with (refine wpList_store_mid rfl 39 (.tmp 6) (.tmp 25) rfl wr.heap.size 0 zero27 rfl rfl hth.out info39 hone.out ?_)
        refine wp_world (fun W => W.rowIs N 39 27 (fun i => .int .i64 (msk (it R 0 i) 27 : Int)) ∧ W.rowIs wr.heap.size 39 27 (fun i => .int .i64 (msk (bf R 0 i) 27 : Int)) ∧ Below w.heap.size w W) ⟨?_, ?_, ?_⟩ ?_
        · exact row_other _ _ _ _ (HROW.out.alloc _) (by omega)
        · exact (row_zeros (row_zero27 wr 39)).congr fun i _ => by
            have : msk (bf R 0 i) 27 = 0 := msk_none 27
            rw [this]; rfl
        · exact below_cells HB.out.size _ 0 _ (HB.out.alloc HB.out.size _)
        rintro W1 ⟨q1, q2, q3⟩
        obtain ⟨b0, hb0⟩ : ∃ b, wr.heap.size = b := ⟨_, rfl⟩
        have hble : w.heap.size ≤ b0 := by rw [← hb0]; exact HB.out.size
        rw [hb0] at q2 hNlt ⊢
        have Q := Lib.hid (⟨q1, q2, q3⟩ : _ ∧ _ ∧ _)
        clear HROW HB hth hb0 q1 q2 q3
        simp only [Act.put, show ((27 : Nat) : Int) = 27 from rfl]
        go_loopw [6] (fun bp wr => ∃ (k b : Nat), bp = .pointer (some ⟨b, 0, none⟩) ∧ Hid (N ≠ b ∧ w.heap.size ≤ b ∧ k ≤ cntP (bf R k) 729) ∧ Hid (wr.rowIs N 39 27 (fun i => .int .i64 (msk (it R k i) 27 : Int))) ∧ Hid (wr.rowIs b 39 27 (fun i => .int .i64 (msk (bf R k i) 27 : Int))) ∧ Hid (Below w.heap.size w wr)) (fun bp wr => 730 - cntP (rdM wr bp) 729)
        case atStart => exact ⟨0, b0, rfl, Lib.hid ⟨by omega, hble, Nat.zero_le _⟩, Lib.hid Q.out.1, Lib.hid Q.out.2.1, Lib.hid Q.out.2.2⟩
        case round =>
          clear Q
          obtain ⟨k, b, rfl, HK, HN, HBF, HB⟩ := hrel
          have hg : Try.prog.eqGuardType Try.prog.depth 39 = false := by kernel_rfl
          have hEQ := arr_eq (fun i => msk (bf R k i) 27) (fun i => msk (it R k i) 27)
          have HRA := Lib.hid (row_range HN.out)
          have HRB := Lib.hid (row_range HBF.out)
          have HMS := Lib.hid (cnt_congr (rd_row HBF.out) 729 (Nat.le_refl _))
          obtain ⟨co, hco⟩ : ∃ c, cellsOf (fun i => msk (it R k i) 27) = c := ⟨_, rfl⟩
          obtain ⟨cb, hcb⟩ : ∃ c, cellsOf (fun i => msk (bf R k i) 27) = c := ⟨_, rfl⟩
          have hina := Lib.hid (show (Try.prog.info? 39).map (·.size) = some co.length by rw [← hco, cells_len]; exact info39)
          have hinb := Lib.hid (show (Try.prog.info? 39).map (·.size) = some cb.length by rw [← hcb, cells_len]; exact info39)
          rw [hco] at HRA
          rw [hcb] at HRB
          rw [hco, hcb] at hEQ
          have HCO := Lib.hid hco
          clear hco hcb
          by_cases he : Eq27 (bf R k) (it R k)
          · rw [msk_all he] at hEQ
            have HX := Lib.hid (fun w => specRelText (it R k) w)
            unfold arrR arr at HX
            rw [HCO.out] at HX
            have HRES := Lib.hid (show closeV r = some (relS (it R k) 27) by rw [H.out, relS_congr (bf_end HRR.out k he (Nat.le_trans HK.out.2.2 (cnt_le _ _)))])
            obtain ⟨s, hs⟩ : ∃ s, relS (it R k) 27 = s := ⟨_, rfl⟩
            rw [hs] at HX HRES
            clear he hs
            go_wp2_with (first
              | (refine wpList_load_mid rfl 39 (.tmp 6) rfl b 0 rfl cb _ HRB.out Try.underlying39 rfl hinb.out ?_)
              | (refine wpList_load_mid rfl 39 (.tmp 4) rfl N 0 rfl co _ HRA.out Try.underlying39 rfl hina.out ?_))
            refine (HX.out _).mono ?_
            rintro e w3 ⟨rfl, hb3⟩
            have HB3 := Lib.hid (HB.out.trans (hb3.mono HB.out.size))
            clear hb3
            go_wp2_with fail
            exact bodyPost_ret (v := .tuple #[.string s, .bool true]) (by simp [results, Try.results26, go_sem]) rfl ⟨by rw [HRES.out]; rfl, HB3.out⟩
          · rw [msk_not he] at hEQ
            have HG := Lib.hid (bf_grow HRR.out k he)
            have htb := Lib.hid (show wr.there b 0 co.toArray.size by rw [show co.toArray.size = 27 by rw [← HCO.out]; simp [cells_len]]; exact row_there HBF.out)
            have hin2 := Lib.hid (show (Try.prog.info? 39).map (·.size) = some co.toArray.size by rw [show co.toArray.size = co.length by simp]; exact hina.out)
            have hone := Lib.hid (show (co.toArray).all (·.oneCell') = true by rw [← HCO.out]; exact all_oneCell_toArray (cells_one _))
            have HX := Lib.hid (fun w => specCompose (it R k) (it R k) w)
            unfold arrR arr at HX
            rw [HCO.out] at HX
            obtain ⟨cn, hcn⟩ : ∃ c, cellsOf (fun i => msk (fun u => joinB (it R k) (it R k) i 27 u) 27) = c := ⟨_, rfl⟩
            rw [hcn] at HX
            have HCN := Lib.hid hcn
            have hinn := Lib.hid (show (Try.prog.info? 39).map (·.size) = some cn.toArray.size by rw [← hcn]; simpa [cells_len] using info39)
            have honen := Lib.hid (show (cn.toArray).all (·.oneCell') = true by rw [← hcn]; exact all_oneCell_toArray (cells_one _))
            have h27 := Lib.hid (show co.toArray.size = 27 by rw [← HCO.out]; simp [cells_len])
            have h27n := Lib.hid (show cn.toArray.size = 27 by rw [← hcn]; simp [cells_len])
            have HN2 := Lib.hid (show (wr.setCells b 0 co.toArray.toList).rowIs N 39 27 _ from row_other _ _ _ _ HN.out HK.out.1)
            have HB2 := Lib.hid (show (wr.setCells b 0 co.toArray.toList).rowIs b 39 27 (fun i => .int .i64 (msk (it R k i) 27 : Int)) from by have := row_full (fun i => msk (it R k i) 27) HBF.out; rw [HCO.out] at this; exact this)
            have HW2 := Lib.hid (show Below w.heap.size w (wr.setCells b 0 co.toArray.toList) from below_cells HK.out.2.1 _ 0 _ HB.out)
            have HRA2 := Lib.hid (row_range HN2.out)
            rw [HCO.out] at HRA2
            clear he hcn
            go_wp2_with (first
              | (refine wpList_load_mid rfl 39 (.tmp 6) rfl b 0 rfl cb _ HRB.out Try.underlying39 rfl hinb.out ?_)
              | (refine wpList_load_mid rfl 39 (.tmp 4) rfl N 0 rfl co _ HRA.out Try.underlying39 rfl hina.out ?_)
              | (refine wpList_store_mid rfl 39 (.tmp 6) (.tmp 29) rfl b 0 co.toArray rfl rfl htb.out hin2.out hone.out ?_; generalize wr.setCells b 0 co.toArray.toList = W2 at HN2 HB2 HW2 HRA2 ⊢)
              | (refine wpList_load_mid rfl 39 (.tmp 4) rfl N 0 rfl co _ HRA2.out Try.underlying39 rfl hina.out ?_)
              | (go_at_call 54; refine (HX.out _).mono ?_; rintro e w5 ⟨rfl, hb5⟩
                 have HN5 := Lib.hid (HN2.out.of_block (hb5.block _ HN2.out.lt))
                 have HB5 := Lib.hid (HB2.out.of_block (hb5.block _ HB2.out.lt))
                 have HW5 := Lib.hid (HW2.out.trans (hb5.mono HW2.out.size))
                 have htn := Lib.hid (show w5.there N 0 cn.toArray.size by rw [h27n.out]; exact row_there HN5.out)
                 have HN6 := Lib.hid (show (w5.setCells N 0 cn.toArray.toList).rowIs N 39 27 (fun i => .int .i64 (msk (it R (k + 1) i) 27 : Int)) from by have := row_full (fun i => msk (fun u => joinB (it R k) (it R k) i 27 u) 27) HN5.out; rw [HCN.out] at this; exact this)
                 have HB6 := Lib.hid (show (w5.setCells N 0 cn.toArray.toList).rowIs b 39 27 _ from row_other _ _ _ _ HB5.out (Ne.symm HK.out.1))
                 have HW6 := Lib.hid (show Below w.heap.size w (w5.setCells N 0 cn.toArray.toList) from below_cells hNle _ 0 _ HW5.out)
                 have HRB6 := Lib.hid (row_range HB6.out)
                 rw [HCO.out] at HRB6
                 clear hb5)
              | (refine wpList_store_mid rfl 39 (.tmp 4) (.tmp 32) rfl N 0 cn.toArray rfl rfl htn.out hinn.out honen.out ?_
                 generalize w5.setCells N 0 cn.toArray.toList = W6 at HN6 HB6 HW6 HRB6 ⊢
                 have ht6 := Lib.hid (show (W6.alloc (.cells zero27 39)).there W6.heap.size 0 co.toArray.size by rw [h27.out]; exact row_there (row_zero27 W6 39)))
              | (refine wpList_load_mid rfl 39 (.tmp 6) rfl b 0 rfl co _ HRB6.out Try.underlying39 rfl hina.out ?_)
              | (refine wpList_store_mid rfl 39 (.tmp 6) (.tmp 33) rfl W6.heap.size 0 co.toArray rfl rfl ht6.out hin2.out hone.out ?_))
            simp only [Act.put]
            have HN7 := Lib.hid (show ((W6.alloc (.cells zero27 39)).setCells W6.heap.size 0 co.toArray.toList).rowIs N 39 27 (fun i => .int .i64 (msk (it R (k + 1) i) 27 : Int)) from row_other _ _ _ _ (HN6.out.alloc _) (by have := HN6.out.lt; omega))
            have HB7 := Lib.hid (show ((W6.alloc (.cells zero27 39)).setCells W6.heap.size 0 co.toArray.toList).rowIs W6.heap.size 39 27 (fun i => .int .i64 (msk (bf R (k + 1) i) 27 : Int)) from by have := row_full (fun i => msk (it R k i) 27) (row_zero27 W6 39); rw [HCO.out] at this; exact this)
            have HW7 := Lib.hid (show Below w.heap.size w ((W6.alloc (.cells zero27 39)).setCells W6.heap.size 0 co.toArray.toList) from below_cells HW6.out.size _ 0 _ (HW6.out.alloc HW6.out.size _))
            have HM7 := Lib.hid (cnt_congr (rd_row HB7.out) 729 (Nat.le_refl _))
            have HNE := Lib.hid (show N ≠ W6.heap.size ∧ w.heap.size ≤ W6.heap.size by exact ⟨by have := HN6.out.lt; omega, HW6.out.size⟩)
            go_roundw
            case rel => exact ⟨k + 1, W6.heap.size, rfl, Lib.hid ⟨HNE.out.1, HNE.out.2, by have h1 := HG.out; have h2 := HK.out.2.2; show k + 1 ≤ cntP (it R k) 729; omega⟩, HN7, HB7, HW7⟩
            case measure =>
              have h1 := HG.out
              have h2 := HMS.out
              have h3 := HM7.out
              have h4 := cnt_le (it R k) 729
              change _ = cntP (it R k) 729 at h3
              show 730 - cntP (rdM ((W6.alloc (.cells zero27 39)).setCells W6.heap.size 0 co.toArray.toList) (.pointer (some ⟨W6.heap.size, 0, none⟩))) 729 < 730 - cntP (rdM wr (.pointer (some ⟨b, 0, none⟩))) 729
              omega
set_option maxRecDepth 100000 in
set_option maxHeartbeats 2000000 in
theorem lawCloseRel (r : ByteArray) (w : World) (hr : r.size ≤ maxLen) : Calls Try.prog 8 #[.string r] w fun e w' => e = .returned (.bool true) ∧ Below w.heap.size w w' := by
  by_cases hbr : r.size ≤ 1048576
  · have h1r : (r.size : Int) ≤ 1048576 := by omega
    have HA := Lib.hid (fun w => specCloseRel r w hbr)
    have HB := Lib.hid (fun w => implCloseRel r w hbr)
    cases h : closeV r with
    | none =>
      rw [h] at HA HB
      simp only [strV] at HA HB
      clear h
      go_enter Try.func8, Try.ntmps8
      go_wp2_with (first
        | (go_at_call 26; refine (HA.out _).mono ?_; rintro e w1 ⟨rfl, hw1⟩)
        | (go_at_call 27; refine (HB.out _).mono ?_; rintro e w2 ⟨rfl, hw2⟩))
      go_ret
      exact ⟨rfl, hw1.trans (hw2.mono hw1.size)⟩
    | some v =>
      rw [h] at HA HB
      simp only [strV] at HA HB
      clear h
      go_enter Try.func8, Try.ntmps8
      go_wp2_with (first
        | (go_at_call 26; refine (HA.out _).mono ?_; rintro e w1 ⟨rfl, hw1⟩)
        | (go_at_call 27; refine (HB.out _).mono ?_; rintro e w2 ⟨rfl, hw2⟩))
      go_ret
      exact ⟨rfl, hw1.trans (hw2.mono hw1.size)⟩
  · have h1r : (1048576 : Int) < (r.size : Int) := by omega
    go_enter Try.func8, Try.ntmps8
    go_wp2_with fail
    go_ret
    exact ⟨rfl, Below.refl _ _⟩

end Go.Proofs.Ytnamdobckkhceaa.Cl
