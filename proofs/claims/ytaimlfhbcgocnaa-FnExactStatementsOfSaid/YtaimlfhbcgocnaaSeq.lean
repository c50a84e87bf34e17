/- Contracts: the statements of a sequence: l7Statements, sequence. -/
import Derived.Test.YtaimlfhbcgocnaaStrs
import Derived.Deep.RegionHeld3
import Derived.Deep.AppendLies
namespace Go.Proofs.Ytaimlfhbcgocnaa.Sq
open Go.RowKit Go.Deep Go.Sort Go.Proofs.Ytaimlfhbcgocnaa.Pl Go.Proofs.Ytaimlfhbcgocnaa.Bi Go.Proofs.Ytaimlfhbcgocnaa.Fi Go.Proofs.Ytaimlfhbcgocnaa.Ed Go.Proofs.Ytaimlfhbcgocnaa.Ps Go.Proofs.Ytaimlfhbcgocnaa.Sw Go.Proofs.Ytaimlfhbcgocnaa.Hd Go.Proofs.Ytaimlfhbcgocnaa.Pp Go.Proofs.Ytaimlfhbcgocnaa.Ea Go.Proofs.Ytaimlfhbcgocnaa.Sz Go.Proofs.Ytaimlfhbcgocnaa.Hs Go.Proofs.Ytaimlfhbcgocnaa.Sr
set_option linter.unusedVariables false

/-! ### Plain -/
/-- The statements that are executed in sequence, of all members. -/
def seqF : F → F
  | .nil => .nil
  | .node b k n => (if b.toNat = 59 then seqF k else .node b k .nil).app (seqF n)
def sq (b : UInt8) (k : F) : F := seqF (.node b k .nil)
theorem sq_one {b : UInt8} (k : F) (h : ¬ b.toNat = 59) : sq b k = .node b k .nil := by simp [sq, seqF, h, F.app]
theorem sq_two {b : UInt8} (b1 : UInt8) (k1 : F) (b2 : UInt8) (k2 : F) (h : b.toNat = 59) : sq b (.node b1 k1 (.node b2 k2 .nil)) = (sq b1 k1).app (sq b2 k2) := by
  simp only [sq, seqF, h, if_true, app_nil]
theorem mem_app : ∀ a b : F, (a.app b).members = a.members ++ b.members
  | .nil, _ => rfl
  | .node x k n, b => by simp [F.app, F.members, mem_app n b]
theorem mem_len : ∀ t : F, t.members.length = t.len
  | .nil => rfl
  | .node x k n => by simp [F.members, F.len, mem_len n]
/-- Their texts. -/
def stT (b : UInt8) (k : F) : List ByteArray := (sq b k).members.map fun x => bs (tx x.1 x.2)
theorem st_one {b : UInt8} (k : F) (h : ¬ b.toNat = 59) : stT b k = [bs (tx b k)] := by simp [stT, sq_one k h, F.members]
theorem st_two {b : UInt8} (b1 : UInt8) (k1 : F) (b2 : UInt8) (k2 : F) (h : b.toNat = 59) : stT b (.node b1 k1 (.node b2 k2 .nil)) = stT b1 k1 ++ stT b2 k2 := by
  simp [stT, sq_two b1 k1 b2 k2 h, mem_app]
theorem seq_len : ∀ t : F, (seqF t).members.length ≤ t.size
  | .nil => by simp [seqF, F.members]
  | .node b k n => by
    have h1 := seq_len k
    have h2 := seq_len n
    simp only [seqF, mem_app, List.length_append, F.size]
    split
    · omega
    · simp [F.members]; omega
theorem st_len (b : UInt8) (k : F) : (stT b k).length ≤ k.size + 1 := by
  have := seq_len (.node b k .nil)
  simp only [F.size] at this
  simpa [stT, sq] using this
theorem st_pos (n : Nat) : ∀ (b : UInt8) (k : F), k.size < n → Is false 2 b k → 0 < (stT b k).length := by
  induction n with
  | zero => intro b k hk; omega
  | succ n ih =>
    intro b k hk hi
    by_cases hb : b.toNat = 59
    · rcases is_prog hi with ⟨rfl, h⟩ | ⟨h, b1, b2, k2, rfl, hv, i2⟩ | ⟨h, b1, k1, b2, k2, rfl, i1, i2⟩ | ⟨h, b0, k0, b1, k1, b2, k2, rfl, i0, i1, i2⟩ | ⟨h, b0, k0, b1, k1, rfl, i0, i1⟩ | ⟨h, b0, k0, rfl, i0⟩
      · omega
      · omega
      · rw [st_two b1 k1 b2 k2 hb, List.length_append]
        simp only [F.size] at hk
        have := ih b1 k1 (by omega) i1
        omega
      · omega
      · omega
      · omega
    · rw [st_one k hb]; simp

/-! ### The reference -/
theorem app_lies {base : Nat} {w3 w4 : World} {ys zs : List ByteArray} {g n c g' c' : Nat} (h : strs base w3 (.slice (some ⟨g, 0, none⟩) n c) ys)
    (ho : w4.ownsRow base 9 1 (.slice (some ⟨g', 0, none⟩) (ys.length + zs.length) c') (ys.length + zs.length) (ys.map Value.string ++ zs.map Value.string)) (hg : w3.grownBy w4 (some g)) :
    strs base w4 (.slice (some ⟨g', 0, none⟩) (ys.length + zs.length) c') (ys ++ zs) ∧ (∀ B W, B ≤ base → Below B W w3 → B ≤ w3.heap.size → Below B W w4) := by
  refine ⟨⟨?_, by simp⟩, fun B W hB hb hl => hb.grown hg hl fun k hk => ?_⟩
  · rw [List.length_append, List.map_append]; exact ho
  · cases hk
    exact Nat.le_trans hB (h.1.lt g rfl).1
set_option maxRecDepth 100000 in
set_option maxHeartbeats 8000000 in
theorem specStatements (n : Nat) : ∀ (b : UInt8) (k : F) (w : World), k.size < n → Is false 2 b k → k.size ≤ 900 →
    Calls Try.prog 25 #[.string (bs (tx b k))] w fun e w' => ∃ v, e = .returned v ∧ strs w.heap.size w' v (stT b k) ∧ Below w.heap.size w w' := by
  obtain ⟨i0, hi0, hz0, hz1, hz2⟩ := info_parts infoStr
  induction n with
  | zero => intro b k w hk; omega
  | succ n ih =>
    intro b k w hk hi hs
    have IH := Lib.hid ih
    clear ih
    have z := bs_size (tx b k)
    have hl := tx_size b k
    have z1 : (0 : Int) < ((bs (tx b k)).size : Int) := by omega
    have z0 : 0 < (bs (tx b k)).size := by omega
    have h0 : (bs (tx b k))[0] = b := rfl
    by_cases hb : b.toNat = 59
    · obtain ⟨b1, k1, b2, k2, rfl, i1, i2⟩ : ∃ b1 k1 b2 k2, k = .node b1 k1 (.node b2 k2 .nil) ∧ Is false 2 b1 k1 ∧ Is false 2 b2 k2 := by
        rcases is_prog hi with ⟨rfl, h⟩ | ⟨h, b1, b2, k2, rfl, hv, i2⟩ | ⟨h, b1, k1, b2, k2, rfl, i1, i2⟩ | ⟨h, b0, k0, b1, k1, b2, k2, rfl, i0, i1, i2⟩ | ⟨h, b0, k0, b1, k1, rfl, i0, i1⟩ | ⟨h, b0, k0, rfl, i0⟩
        · omega
        · omega
        · exact ⟨b1, k1, b2, k2, rfl, i1, i2⟩
        · omega
        · omega
        · omega
      have HP := Lib.hid (fun w => specParts false b _ w hi (by omega))
      rw [show (partsOf b (.node b1 k1 (.node b2 k2 .nil))).map (fun x => bs (tx x.1 x.2)) = [bs (tx b1 k1), bs (tx b2 k2)] by simp [partsOf, partsL, hb, F.members]] at HP
      simp only [F.size] at hk hs
      have HST := Lib.hid (st_two b1 k1 b2 k2 hb)
      have HC1 := Lib.hid (fun w => IH.out b1 k1 w (by omega) i1 (by omega))
      have HC2 := Lib.hid (fun w => IH.out b2 k2 w (by omega) i2 (by omega))
      have l1 := st_len b1 k1
      have l2 := st_len b2 k2
      have p2 := st_pos _ b2 k2 (Nat.lt_succ_self _) i2
      obtain ⟨T1, hT1⟩ : ∃ T, bs (tx b1 k1) = T := ⟨_, rfl⟩
      obtain ⟨T2, hT2⟩ : ∃ T, bs (tx b2 k2) = T := ⟨_, rfl⟩
      obtain ⟨ys, hys⟩ : ∃ y, stT b1 k1 = y := ⟨_, rfl⟩
      obtain ⟨zs, hzs⟩ : ∃ y, stT b2 k2 = y := ⟨_, rfl⟩
      rw [hT1, hT2] at HP
      rw [hT1, hys] at HC1
      rw [hT2, hzs] at HC2
      rw [hys, hzs] at HST
      rw [hys] at l1
      rw [hzs] at l2 p2
      generalize hT : bs (tx b (.node b1 k1 (.node b2 k2 .nil))) = T at z z0 z1 h0 HP ⊢
      have g59 : ((T[0].toNat : Int) != 59) = false := by rw [h0]; simp; omega
      clear hb hi h0 hT z IH i1 i2 hT1 hT2 hys hzs hl
      go_enter Try.func25, Try.ntmps25
      go_wp2_with fail
      refine (HP.out _).mono ?_
      rintro e w1 ⟨v, rfl, hv, hb1⟩
      obtain ⟨gp, cp, rfl, hgp, hgpl, hcp, hx, _⟩ := strs_form hv
      have d0 : w1.cell? ⟨gp, 0, none⟩ = some (.string T1) := hx 0 T1 rfl
      have d1 : w1.cell? ⟨gp, 1, none⟩ = some (.string T2) := hx 1 T2 rfl
      have HB1 := Lib.hid hb1
      clear hx hv hb1 hcp
      go_wp2_with fail
      go_region_held3 (fun w' => w'.cell? ⟨gp, 0, none⟩ = some (.string T1) ∧ w'.cell? ⟨gp, 1, none⟩ = some (.string T2))
        (first
          | go_keep
          | (go_split_ands; exact ⟨(hg5.cell_far ⟨gp, 0, none⟩ hl4 hne).trans (by assumption), (hg5.cell_far ⟨gp, 1, none⟩ hl4 hne).trans (by assumption)⟩)
          | (go_split_ands; exact ⟨(hb4.cell (p := ⟨gp, 0, none⟩) hl3).trans (by assumption), (hb4.cell (p := ⟨gp, 1, none⟩) hl3).trans (by assumption)⟩)
          | exact ⟨(hb3.cell (p := ⟨gp, 0, none⟩) hl0).trans (by go_keep), (hb3.cell (p := ⟨gp, 1, none⟩) hl0).trans (by go_keep)⟩)
        (first
          | ((with_reducible refine (HC1.out _).mono ?_); rintro e w3 ⟨v3, rfl, hs3, hb3⟩; obtain ⟨g3, c3, rfl, _, _, _, _, _⟩ := strs_form hs3; have hl0 : gp < w1.drew.heap.size := hgpl; have hl3 : gp < w3.heap.size := Nat.lt_of_lt_of_le hl0 hb3.size)
          | ((with_reducible refine (HC2.out _).mono ?_); rintro e w4 ⟨v4, rfl, hs4, hb4⟩; obtain ⟨g4, c4, rfl, _, _, _, _, _⟩ := strs_form hs4
             have hl4 : gp < w4.heap.size := Nat.lt_of_lt_of_le hl3 hb4.size
             have hne : some gp ≠ some g3 := by have := (hs3.1.lt g3 rfl).1; intro e; cases e; omega
             have hown := owns_mono (strs_below hs3 hb4).1 HB1.out.size)
          | (refine step_append_lies _ (by rfl) (.tmp 14) (.tmp 18) 33 (by rfl) w.heap.size 9 i0 (.string ⟨#[]⟩) 1 16 Try.underlying33 hi0 hz0 hz1 hz2 (by rfl) (by decide) (.slice (some ⟨g3, 0, none⟩) ys.length c3) ys.length (ys.map Value.string) (by rfl) hown ⟨g4, 0, none⟩ zs.length c4 (zs.map Value.string) (by rfl) (by simp) (strs_all hs4 rfl) (strs_one _) p2 (by unfold maxLen; omega) (by omega) (Nat.le_trans HB1.out.size (Nat.le_trans hb3.size hb4.size)) w4.heap.size (by rfl) ?_; intro gg cap w5 ho5 hg5 hat hlt))
      have hs4w : strs w.heap.size w4 (.slice (some ⟨g3, 0, none⟩) ys.length c3) ys := ⟨hown, by simp⟩
      obtain ⟨S5, B5⟩ := app_lies hs4w ho5 hg5
      have hb34 := (HB1.out.drew.trans (hb3.mono HB1.out.drew.size)).trans (hb4.mono (HB1.out.drew.trans (hb3.mono HB1.out.drew.size)).size)
      have HS5 := Lib.hid S5
      have HB5 := Lib.hid (B5 _ _ (Nat.le_refl _) hb34 hb34.size)
      clear hs3 hs4 hb3 hb4 hown ho5 hg5 hat S5 B5 hs4w hb34
      go_wp2_with fail
      go_ret
      exact ⟨_, rfl, by rw [HST.out]; exact HS5.out, HB5.out⟩
    · have HST := Lib.hid (st_one k hb)
      generalize hT : bs (tx b k) = T at z z0 z1 h0 HST ⊢
      have g59 : ((T[0].toNat : Int) != 59) = true := by rw [h0]; simp; omega
      clear hb hi h0 hT z IH
      have HS := Lib.hid (strs_lit w T w.heap.size (Nat.le_refl _))
      go_enter Try.func25, Try.ntmps25
      go_wp2_with fail
      go_ret
      exact ⟨_, rfl, by rw [HST.out]; exact HS.out, (Below.refl _ _).alloc (Nat.le_refl _) _⟩
/-! ### The program -/
theorem inW_two {S : Nat → Prop} {w : World} {p : Nat} {b b1 b2 : UInt8} {k1 k2 : F} (h : inW S w (.node b (.node b1 k1 (.node b2 k2 .nil)) .nil) [p]) :
    ∃ g cap p1 p2, w.cell? ⟨p, 1, none⟩ = some (.slice (some ⟨g, 0, none⟩) 2 cap) ∧ w.cell? ⟨g, 0, none⟩ = some (.pointer (some ⟨p1, 0, none⟩)) ∧
      w.cell? ⟨g, 1, none⟩ = some (.pointer (some ⟨p2, 0, none⟩)) ∧ inW S w (.node b1 k1 .nil) [p1] ∧ inW S w (.node b2 k2 .nil) [p2] := by
  obtain ⟨_, _, _, ⟨v, qs, h1, hk, hkk⟩, _⟩ := h
  match qs, hkk, hk with
  | [p1, p2], hkk, hk =>
    rcases hk with ⟨hq, _⟩ | ⟨_, g, cap, _, rfl, hc⟩
    · cases hq
    · obtain ⟨x1, x2, x3, x4, y1, y2, y3, y4, _⟩ := hkk
      exact ⟨g, cap, p1, p2, h1, hc 0 p1 rfl, hc 1 p2 rfl, ⟨x1, x2, x3, x4, trivial⟩, ⟨y1, y2, y3, y4, trivial⟩⟩
  | [], hkk, _ => exact hkk.elim
  | [_], hkk, _ => exact hkk.2.2.2.2.elim
  | _ :: _ :: _ :: _, hkk, _ => exact hkk.2.2.2.2.2.2.2.2.elim
/-- A row of pointers that nobody else holds. -/
def prow (base : Nat) (w : World) (v : Value) (qs : List Nat) : Prop := w.ownsRow base 40 1 v qs.length (qs.map ptr) ∧ v ≠ .slice none 0 0
theorem prow_form {base : Nat} {w : World} {v : Value} {qs : List Nat} (h : prow base w v qs) : ∃ g cap, v = .slice (some ⟨g, 0, none⟩) qs.length cap ∧ base ≤ g ∧ g < w.heap.size ∧ qs.length ≤ cap ∧
    (∀ i q, qs[i]? = some q → w.cell? ⟨g, i, none⟩ = some (.pointer (some ⟨q, 0, none⟩))) := by
  obtain ⟨h, hn⟩ := h
  rcases h.2 with ⟨hv, _⟩ | ⟨g, cap, cur, hv, hg, hh, hc, _⟩
  · exact absurd hv hn
  · refine ⟨g, cap, hv, hg, (Array.getElem?_eq_some_iff.1 hh).1, hc, fun i x hx => ?_⟩
    have := h.cells (g := g) (by rw [hv]; rfl) i (ptr x) (by rw [List.getElem?_map, hx]; rfl)
    have e : (⟨g, 0, none⟩ : Addr).add i = ⟨g, i, none⟩ := by unfold Addr.add; split <;> simp_all
    rw [e] at this
    exact this
theorem prow_below {base : Nat} {w w' : World} {v : Value} {qs : List Nat} (h : prow base w v qs) (hb : Below w.heap.size w w') : prow base w' v qs := by
  refine ⟨?_, h.2⟩
  cases hv : v.ownBlock with
  | none => exact h.1.kept (grown_of_below hb) (.inl hv)
  | some g => exact h.1.kept (grown_of_below hb) (.inr (by rw [hv]; simp))
theorem prow_lit (w : World) (q : Nat) (base : Nat) (hb : base ≤ w.heap.size) : prow base (w.alloc (.cells #[.pointer (some ⟨q, 0, none⟩)] 40)) (.slice (some ⟨w.heap.size, 0, none⟩) 1 1) [q] :=
  ⟨⟨rfl, .inr ⟨w.heap.size, 1, #[.pointer (some ⟨q, 0, none⟩)], rfl, hb, blk_alloc_new _ _, Nat.le_refl _, by unfold maxLen; omega, rfl, rfl⟩⟩, by simp⟩
theorem prow_all {base : Nat} {w : World} {v : Value} {qs : List Nat} (h : prow base w v qs) {g : Nat} (hg : v.ownBlock = some g) : ∀ j u, (qs.map ptr)[j]? = some u → w.cell? ((⟨g, 0, none⟩ : Addr).add j) = some u := h.1.cells hg
theorem ptr_one (qs : List Nat) : ∀ u ∈ qs.map ptr, u.oneCell' = true := by
  intro u hu
  obtain ⟨x, _, rfl⟩ := List.mem_map.1 hu
  rfl
theorem app_liesP {base : Nat} {w3 w4 : World} {ys zs : List Nat} {g n c g' c' : Nat} (h : prow base w3 (.slice (some ⟨g, 0, none⟩) n c) ys)
    (ho : w4.ownsRow base 40 1 (.slice (some ⟨g', 0, none⟩) (ys.length + zs.length) c') (ys.length + zs.length) (ys.map ptr ++ zs.map ptr)) (hg : w3.grownBy w4 (some g)) :
    prow base w4 (.slice (some ⟨g', 0, none⟩) (ys.length + zs.length) c') (ys ++ zs) ∧ (∀ B W, B ≤ base → Below B W w3 → B ≤ w3.heap.size → Below B W w4) := by
  refine ⟨⟨?_, by simp⟩, fun B W hB hb hl => hb.grown hg hl fun k hk => ?_⟩
  · rw [List.length_append, List.map_append]; exact ho
  · cases hk
    exact Nat.le_trans hB (h.1.lt g rfl).1
theorem infoPtr : (Try.prog.info? 40).map (fun i => (i.zero, i.size, i.bytes)) = some (some (.pointer none), 1, 8) := by kernel_rfl
set_option maxRecDepth 100000 in
set_option maxHeartbeats 8000000 in
theorem implSequence (S : Nat → Prop) (n : Nat) : ∀ (b : UInt8) (k : F) (p : Nat) (w : World), k.size < n → Is false 2 b k → k.size ≤ 900 → inW S w (.node b k .nil) [p] → (∀ x, S x → x < w.heap.size) →
    Calls Try.prog 27 #[.pointer (some ⟨p, 0, none⟩)] w fun e w' => ∃ v qs, e = .returned v ∧ prow w.heap.size w' v qs ∧ inW S w' (sq b k) qs ∧ Below w.heap.size w w' := by
  obtain ⟨i0, hi0, hz0, hz1, hz2⟩ := info_parts infoPtr
  induction n with
  | zero => intro b k p w hk; omega
  | succ n ih =>
    intro b k p w hk hi hs hT hS
    have IH := Lib.hid ih
    clear ih
    have h0 : w.cell? ⟨p, 0, none⟩ = some (.int .u8 (b.toNat : Int)) := hT.2.1
    by_cases hb : b.toNat = 59
    · obtain ⟨b1, k1, b2, k2, rfl, i1, i2⟩ : ∃ b1 k1 b2 k2, k = .node b1 k1 (.node b2 k2 .nil) ∧ Is false 2 b1 k1 ∧ Is false 2 b2 k2 := by
        rcases is_prog hi with ⟨rfl, h⟩ | ⟨h, b1, b2, k2, rfl, hv, i2⟩ | ⟨h, b1, k1, b2, k2, rfl, i1, i2⟩ | ⟨h, b0, k0, b1, k1, b2, k2, rfl, i0, i1, i2⟩ | ⟨h, b0, k0, b1, k1, rfl, i0, i1⟩ | ⟨h, b0, k0, rfl, i0⟩
        · omega
        · omega
        · exact ⟨b1, k1, b2, k2, rfl, i1, i2⟩
        · omega
        · omega
        · omega
      obtain ⟨gp, cp, q1, q2, d1, e1, e2, t1, t2⟩ := inW_two hT
      simp only [F.size] at hk hs
      have HC1 := Lib.hid (fun w ht hS => IH.out b1 k1 q1 w (by omega) i1 (by omega) ht hS)
      have HC2 := Lib.hid (fun w ht hS => IH.out b2 k2 q2 w (by omega) i2 (by omega) ht hS)
      have l1 := st_len b1 k1
      have l2 := st_len b2 k2
      have p2 := st_pos _ b2 k2 (Nat.lt_succ_self _) i2
      have HST := Lib.hid (sq_two b1 k1 b2 k2 hb)
      simp only [stT, List.length_map, mem_len] at l1 l2 p2
      have T1 := Lib.hid t1
      have T2 := Lib.hid t2
      have HS := Lib.hid hS
      have lp := lt_of_cell d1
      have lg := lt_of_cell e1
      have g59 : ((b.toNat : Int) != 59) = false := by simp; omega
      obtain ⟨n1, hn1⟩ : ∃ n, (sq b1 k1).len = n := ⟨_, rfl⟩
      obtain ⟨n2, hn2⟩ : ∃ n, (sq b2 k2).len = n := ⟨_, rfl⟩
      rw [hn1] at l1
      rw [hn2] at l2 p2
      have HN1 := Lib.hid hn1
      have HN2 := Lib.hid hn2
      clear hb hi hT hS IH i1 i2 t1 t2 hn1 hn2
      have T1d := Lib.hid (show inW S w.drew (.node b1 k1 .nil) [q1] from inW_stays (S' := S) (w := w) (w' := w.drew) (fun x hx hl => ⟨hx, rfl⟩) T1.out)
      have T2d := Lib.hid (show inW S w.drew (.node b2 k2 .nil) [q2] from inW_stays (S' := S) (w := w) (w' := w.drew) (fun x hx hl => ⟨hx, rfl⟩) T2.out)
      have HSd := Lib.hid (show ∀ x, S x → x < w.drew.heap.size from fun x hx => HS.out x hx)
      have lgd : gp < w.drew.heap.size := lg
      have lpd : p < w.drew.heap.size := lp
      go_enter Try.func27, Try.ntmps27
      go_wp2_with fail
      go_region_held3 (fun w' => w'.cell? ⟨p, 1, none⟩ = some (.slice (some ⟨gp, 0, none⟩) 2 cp) ∧ w'.cell? ⟨gp, 0, none⟩ = some (.pointer (some ⟨q1, 0, none⟩)) ∧ w'.cell? ⟨gp, 1, none⟩ = some (.pointer (some ⟨q2, 0, none⟩)))
        (first
          | go_keep
          | (go_split_ands; exact ⟨(hg5.cell_far ⟨p, 1, none⟩ lp4 np).trans (by assumption), (hg5.cell_far ⟨gp, 0, none⟩ lg4 ng).trans (by assumption), (hg5.cell_far ⟨gp, 1, none⟩ lg4 ng).trans (by assumption)⟩)
          | (go_split_ands; exact ⟨(hb4.cell (p := ⟨p, 1, none⟩) lp3).trans (by assumption), (hb4.cell (p := ⟨gp, 0, none⟩) lg3).trans (by assumption), (hb4.cell (p := ⟨gp, 1, none⟩) lg3).trans (by assumption)⟩)
          | exact ⟨(hb3.cell (p := ⟨p, 1, none⟩) lpd).trans (by go_keep), (hb3.cell (p := ⟨gp, 0, none⟩) lgd).trans (by go_keep), (hb3.cell (p := ⟨gp, 1, none⟩) lgd).trans (by go_keep)⟩)
        (first
          | ((with_reducible refine (HC1.out _ T1d.out HSd.out).mono ?_); rintro e w3 ⟨v3, ys, rfl, hs3, ht3, hb3⟩; obtain ⟨g3, c3, rfl, _, _, _, _⟩ := prow_form hs3
             have lg3 : gp < w3.heap.size := Nat.lt_of_lt_of_le lgd hb3.size
             have lp3 : p < w3.heap.size := Nat.lt_of_lt_of_le lpd hb3.size
             have T23 := Lib.hid (inW_stays (S' := S) (fun x hx hl => ⟨hx, hb3.block x hl⟩) T2d.out)
             have HS3 := Lib.hid (fun x hx => Nat.lt_of_lt_of_le (HSd.out x hx) hb3.size))
          | ((with_reducible refine (HC2.out _ T23.out HS3.out).mono ?_); rintro e w4 ⟨v4, zs, rfl, hs4, ht4, hb4⟩; obtain ⟨g4, c4, rfl, _, _, _, _⟩ := prow_form hs4
             have lg4 : gp < w4.heap.size := Nat.lt_of_lt_of_le lg3 hb4.size
             have lp4 : p < w4.heap.size := Nat.lt_of_lt_of_le lp3 hb4.size
             have hgg := (hs3.1.lt g3 rfl).1
             have np : some p ≠ some g3 := by intro e; cases e; omega
             have ng : some gp ≠ some g3 := by intro e; cases e; omega
             have hz1' : ys.length ≤ k1.size + 1 := by rw [inW_len ht3, HN1.out]; exact l1
             have hz2' : zs.length ≤ k2.size + 1 := by rw [inW_len ht4, HN2.out]; exact l2
             have hz3' : 0 < zs.length := by rw [inW_len ht4, HN2.out]; exact p2
             have hown := owns_mono (base' := w.heap.size) (prow_below hs3 hb4).1 (Nat.le_refl _))
          | (refine step_append_lies _ (by rfl) (.tmp 16) (.tmp 23) 42 (by rfl) w.heap.size 40 i0 (.pointer none) 1 8 Try.underlying42 hi0 hz0 hz1 hz2 (by rfl) (by decide) (.slice (some ⟨g3, 0, none⟩) ys.length c3) ys.length (ys.map ptr) (by rfl) hown ⟨g4, 0, none⟩ zs.length c4 (zs.map ptr) (by rfl) (by simp) (prow_all hs4 rfl) (ptr_one _) (by omega) (by unfold maxLen; omega) (by omega) (Nat.le_trans hb3.size hb4.size) w4.heap.size (by rfl) ?_; intro gg cap w5 ho5 hg5 hat hlt))
      have hs4w : prow w.heap.size w4 (.slice (some ⟨g3, 0, none⟩) ys.length c3) ys := ⟨hown, by simp⟩
      obtain ⟨S5, B5⟩ := app_liesP hs4w ho5 hg5
      have hb34 : Below w.heap.size w w4 := ((Below.refl w.heap.size w).drew.trans hb3).trans (hb4.mono hb3.size)
      have HS5 := Lib.hid S5
      have HB5 := Lib.hid (B5 _ _ (Nat.le_refl _) hb34 hb34.size)
      have HT5 := Lib.hid (inW_app (inW_stays (S' := S) (fun x hx hl => ⟨hx, (hg5.block x (Nat.lt_of_lt_of_le hl hb4.size) (by
          have h1 := HSd.out x hx
          intro e
          have e' : x = g3 := by simpa [Value.ownBlock] using e
          omega)).trans (hb4.block x hl)⟩) ht3) (inW_stays (S' := S) (fun x hx hl => ⟨hx, hg5.block x hl (by
          have h1 := HSd.out x hx
          intro e
          have e' : x = g3 := by simpa [Value.ownBlock] using e
          omega)⟩) ht4))
      have HLL := Lib.hid (show (ys ++ zs).length = ys.length + zs.length by simp)
      clear hs3 hs4 hb3 hb4 hown ho5 hg5 hat S5 B5 hs4w hb34 ht3 ht4
      go_wp2_with fail
      go_ret
      exact ⟨_, ys ++ zs, rfl, HS5.out, by rw [HST.out]; exact HT5.out, HB5.out⟩
    · have HST := Lib.hid (sq_one k hb)
      have g59 : ((b.toNat : Int) != 59) = true := by simp; omega
      have HP := Lib.hid (prow_lit w p w.heap.size (Nat.le_refl _))
      have HT := Lib.hid (inW_stays (S' := S) (fun x hx hl => ⟨hx, ((Below.refl _ w).alloc (Nat.le_refl _) (.cells #[.pointer (some ⟨p, 0, none⟩)] 40)).block x hl⟩) hT)
      clear hb hi hT hS IH
      go_enter Try.func27, Try.ntmps27
      go_wp2_with fail
      go_ret
      exact ⟨_, [p], rfl, HP.out, by rw [HST.out]; exact HT.out, (Below.refl _ _).alloc (Nat.le_refl _) _⟩
end Go.Proofs.Ytaimlfhbcgocnaa.Sq
