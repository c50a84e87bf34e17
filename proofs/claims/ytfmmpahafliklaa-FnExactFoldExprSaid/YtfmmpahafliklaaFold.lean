/- Contracts and law: FoldExpr. -/
import Derived.Test.YtfmmpahafliklaaEvl
import Derived.Test.YtfmmpahafliklaaVars
import Derived.Laws.BytesArg
namespace Go.Proofs.Ytfmmpahafliklaa.Fd
open Go.RowKit Go.Deep Go.Proofs.Ytfmmpahafliklaa.Pl Go.Proofs.Ytfmmpahafliklaa.Bi Go.Proofs.Ytfmmpahafliklaa.Fi Go.Proofs.Ytfmmpahafliklaa.Ed Go.Proofs.Ytfmmpahafliklaa.Ps Go.Proofs.Ytfmmpahafliklaa.Sw Go.Proofs.Ytfmmpahafliklaa.St Go.Proofs.Ytfmmpahafliklaa.En Go.Proofs.Ytfmmpahafliklaa.Vl Go.Proofs.Ytfmmpahafliklaa.El Go.Proofs.Ytfmmpahafliklaa.Vs
set_option linter.unusedVariables false

theorem conv1 (W0 : World) (a : Int) (n c : Nat) (hn : n = W0.heap.size) :
    (convert 55 9 (.slice (some ⟨n, 0, none⟩) 1 c)).run Try.prog (W0.alloc (.cells #[.int .u8 a] 5)) = .ok (.string (strOfNums [a])) (W0.alloc (.cells #[.int .u8 a] 5)) := by
  subst hn
  refine run_convert_bytes_arg _ 55 5 Try.underlying55 Try.underlying5 W0.heap.size 0 1 c [a] rfl ?_ 9 Try.underlying9
  intro i hi
  match i, hi with
  | 0, _ => simp [World.cell?_alloc_at]
/-- A digit's text. -/
theorem specDec (n : Int) (w : World) (h0 : 0 ≤ n) (h9 : n ≤ 9) :
    Calls Try.prog 71 #[.int .i64 n] w fun e w' => e = .returned (.string (strOfNums [48 + n])) ∧ Below w.heap.size w w' := by
  have hcv := conv1
  go_enter Try.func71, Try.ntmps71
  go_wp2_with fail
  refine wp_loop_rounds 1 ?_
  rw [rounds_succ]
  go_wp2_with fail
  go_ret
  exact ⟨by simp; exact ByteArray.append_empty, by repeat (first | exact Below.refl _ _ | refine Below.alloc ?_ (by simp <;> omega) _)⟩
/-- The digit of a value. -/
def dig (v : Int) : UInt8 := UInt8.ofNat (48 + v.toNat)
theorem dig_str {v : Int} (h0 : 0 ≤ v) (h2 : v ≤ 2) : strOfNums [48 + v] = bs [dig v] := by
  rcases (show v = 0 ∨ v = 1 ∨ v = 2 by omega) with h | h | h <;> subst h <;> rfl
theorem dig_rune {v : Int} (h0 : 0 ≤ v) (h2 : v ≤ 2) : Utf8.encode (48 + v) = bs [dig v] := by
  rcases (show v = 0 ∨ v = 1 ∨ v = 2 by omega) with h | h | h <;> subst h <;> rfl
theorem ev3_zero : ev3 0 0 0 = fun _ => 0 := by funext i; unfold ev3; (repeat' split) <;> rfl
theorem dg_leaf {wide : Bool} {c : UInt8} {k : F} (hi : Is wide 0 c k) (h : dgB c.toNat = true) : k = .nil := by
  rcases is_expr hi with ⟨h, _⟩ | ⟨hv, _⟩
  · exact h
  · rw [h] at hv; simp at hv
theorem leaf_one {wide : Bool} {c : UInt8} {k : F} (hi : Is wide 0 c k) (h : (tx c k).length = 1) : k = .nil := by
  rcases is_expr hi with ⟨h, _⟩ | ⟨hv, _, b1, k1, b2, k2, rfl, _, _⟩
  · exact h
  · simp [tx, F.text] at h

theorem implIsDigit (wide : Bool) (c : UInt8) (k : F) (w : World) (hi : Is wide 0 c k) : Calls Try.prog 72 #[.string (bs (tx c k))] w fun e w' => e = .returned (.bool (dgB c.toNat)) ∧ w = w' := by
  have z := bs_size (tx c k)
  have h0 : (bs (tx c k))[0]'(by rw [z]; simp [tx]) = c := rfl
  by_cases h1 : (tx c k).length = 1
  · have hz : ((bs (tx c k)).size : Int) = 1 := by omega
    have hz' : (bs (tx c k)).size = 1 := by omega
    by_cases h48 : 48 ≤ c.toNat
    · by_cases h50 : c.toNat ≤ 50
      · have H := Lib.hid (show dgB c.toNat = true by simp [dgB, h48, h50])
        generalize hT : bs (tx c k) = T at z h0 hz hz' ⊢
        have k1 : (48 : Int) ≤ (T[0].toNat : Int) := by rw [h0]; omega
        have k2 : (T[0].toNat : Int) ≤ 50 := by rw [h0]; omega
        clear hT hi h48 h50 h0
        go_enter Try.func72, Try.ntmps72
        go_wp2
        all_goals first | omega | (go_ret; exact ⟨by rw [H.out]; first | rfl | (simp; done) | (simp; omega), rfl⟩)
      · have H := Lib.hid (show dgB c.toNat = false by simp [dgB]; omega)
        generalize hT : bs (tx c k) = T at z h0 hz hz' ⊢
        have k1 : (48 : Int) ≤ (T[0].toNat : Int) := by rw [h0]; omega
        have k2 : (50 : Int) < (T[0].toNat : Int) := by rw [h0]; omega
        clear hT hi h48 h50 h0
        go_enter Try.func72, Try.ntmps72
        go_wp2
        all_goals first | omega | (go_ret; exact ⟨by rw [H.out]; first | rfl | (simp; done) | (simp; omega), rfl⟩)
    · have H := Lib.hid (show dgB c.toNat = false by simp [dgB]; omega)
      generalize hT : bs (tx c k) = T at z h0 hz hz' ⊢
      have k1 : (T[0].toNat : Int) < 48 := by rw [h0]; omega
      clear hT hi h48 h0
      go_enter Try.func72, Try.ntmps72
      go_wp2
      all_goals first | omega | (go_ret; exact ⟨by rw [H.out]; first | rfl | (simp; done) | (simp; omega), rfl⟩)
  · have H := Lib.hid (show dgB c.toNat = false by
      cases h : dgB c.toNat with
      | false => rfl
      | true => exact absurd (by rw [dg_leaf hi h]; rfl) h1)
    have g : (((bs (tx c k)).size : Int) == 1) = false := by simp; omega
    have hne : ¬ (bs (tx c k)).size = 1 := by omega
    generalize hT : bs (tx c k) = T at z h0 g hne ⊢
    clear hT hi h1 h0 z
    go_enter Try.func72, Try.ntmps72
    go_wp2
    all_goals first | omega | (go_ret; exact ⟨by rw [H.out]; rfl, rfl⟩)

set_option maxRecDepth 100000 in
set_option maxHeartbeats 4000000 in
theorem implFold (n : Nat) : ∀ (b : UInt8) (k : F) (p : Nat) (w : World), k.size ≤ n → Is false 0 b k → (tx b k).length ≤ 200 → isT w p b k →
    Calls Try.prog 63 #[.pointer (some ⟨p, 0, none⟩)] w fun e w' => e = .returned (.string (bs (tx (fold b k).1 (fold b k).2))) ∧ Below w.heap.size w w' := by
  induction n with
  | zero =>
    intro b k p w hk hi hl hT
    rcases is_expr hi with ⟨rfl, hv⟩ | ⟨hv, ho, b1, k1, b2, k2, rfl, i1, i2⟩
    · have h1 := isT_none hT
      have h2 := isT_text hT
      go_enter Try.func63, Try.ntmps63
      go_wp2_with fail
      go_ret
      exact ⟨rfl, Below.refl _ _⟩
    · simp [F.size] at hk
  | succ n ih =>
    intro b k p w hk hi hl hT
    rcases is_expr hi with ⟨rfl, hv⟩ | ⟨hv, ho, b1, k1, b2, k2, rfl, i1, i2⟩
    · have h1 := isT_none hT
      have h2 := isT_text hT
      go_enter Try.func63, Try.ntmps63
      go_wp2_with fail
      go_ret
      exact ⟨rfl, Below.refl _ _⟩
    · simp only [F.size] at hk
      simp only [tx, F.text, List.length_cons, List.length_append, List.length_nil] at hl
      obtain ⟨g, cap, p1, p2, c1, d1, d2, t1, t2⟩ := isT_two hT
      have IH1 := Lib.hid (ih b1 k1 p1 w (by omega) i1 (by simp only [tx, List.length_cons]; omega) t1)
      have IH2 := Lib.hid (fun w' (hw : Below w.heap.size w w') => ih b2 k2 p2 w' (by omega) i2 (by simp only [tx, List.length_cons]; omega) (isT_below hw t2))
      have j1 := fold_is i1
      have j2 := fold_is i2
      have l1 := fold_len i1
      have l2 := fold_len i2
      have HF := Lib.hid (fold_two b b1 k1 b2 k2)
      have HT := Lib.hid hT
      have hb7 : (b.toNat : Int) < 128 := by omega
      have hr := rune_one b (by omega)
      have z0 : (bs [b]).size = 1 := rfl
      obtain ⟨c, kc, hc⟩ : ∃ c kc, fold b1 k1 = (c, kc) := ⟨_, _, rfl⟩
      obtain ⟨d, kd, hd⟩ : ∃ d kd, fold b2 k2 = (d, kd) := ⟨_, _, rfl⟩
      rw [hc] at j1 l1 IH1 HF
      rw [hd] at j2 l2 IH2 HF
      simp only at j1 l1 IH1 HF j2 l2 IH2
      have z1 : (bs (tx c kc)).size ≤ 200 := by rw [bs_size]; simp only [tx, List.length_cons] at l1 ⊢; omega
      have z2 : (bs (tx d kd)).size ≤ 200 := by rw [bs_size]; simp only [tx, List.length_cons] at l2 ⊢; omega
      have HD1 := Lib.hid (fun w => implIsDigit false c kc w j1)
      have HD2 := Lib.hid (fun w => implIsDigit false d kd w j2)
      have HC := Lib.hid (show bs [b] ++ bs (tx c kc) ++ bs (tx d kd) = bs (tx b (.node c kc (.node d kd .nil))) by rw [bs_app, bs_app]; simp [tx, F.text])
      clear hT t1 ih hc hd l1 l2 hv hl hk
      cases hdc : dgB c.toNat with
      | false =>
        have HX := Lib.hid (show tx (fold b (.node b1 k1 (.node b2 k2 .nil))).1 (fold b (.node b1 k1 (.node b2 k2 .nil))).2 = tx b (.node c kc (.node d kd .nil)) by rw [HF.out, hdc]; rfl)
        have H1 := Lib.hid hdc
        clear hdc hi ho
        go_enter Try.func63, Try.ntmps63
        go_wp2_with fail
        refine (IH1.out).mono ?_
        rintro e w1 ⟨rfl, hw1⟩
        have hz1 : w.heap.size ≤ w1.heap.size := hw1.size
        have e1 : w1.cell? ⟨p, 1, none⟩ = some (.slice (some ⟨g, 0, none⟩) 2 cap) := (hw1.cell (p := ⟨p, 1, none⟩) (lt_of_cell c1)).trans c1
        have e2 : w1.cell? ⟨g, 1, none⟩ = some (.pointer (some ⟨p2, 0, none⟩)) := (hw1.cell (p := ⟨g, 1, none⟩) (lt_of_cell d2)).trans d2
        go_wp2_with fail
        refine (IH2.out w1 hw1).mono ?_
        rintro e w2 ⟨rfl, hw2⟩
        have e3 := isT_op (isT_below (grew hw1 hw2) HT.out)
        go_wp2_with (go_at_call_of 72 c; refine (HD1.out _).mono ?_; rintro e w3 ⟨rfl, rfl⟩; rw [H1.out])
        go_ret
        exact ⟨by rw [HX.out, ← HC.out]; rfl, grew hw1 hw2⟩
      | true =>
        cases hdd : dgB d.toNat with
        | false =>
          have HX := Lib.hid (show tx (fold b (.node b1 k1 (.node b2 k2 .nil))).1 (fold b (.node b1 k1 (.node b2 k2 .nil))).2 = tx b (.node c kc (.node d kd .nil)) by rw [HF.out, hdc, hdd]; rfl)
          have H1 := Lib.hid hdc; have H2 := Lib.hid hdd
          clear hdc hdd hi ho
          go_enter Try.func63, Try.ntmps63
          go_wp2_with fail
          refine (IH1.out).mono ?_
          rintro e w1 ⟨rfl, hw1⟩
          have hz1 : w.heap.size ≤ w1.heap.size := hw1.size
          have e1 : w1.cell? ⟨p, 1, none⟩ = some (.slice (some ⟨g, 0, none⟩) 2 cap) := (hw1.cell (p := ⟨p, 1, none⟩) (lt_of_cell c1)).trans c1
          have e2 : w1.cell? ⟨g, 1, none⟩ = some (.pointer (some ⟨p2, 0, none⟩)) := (hw1.cell (p := ⟨g, 1, none⟩) (lt_of_cell d2)).trans d2
          go_wp2_with fail
          refine (IH2.out w1 hw1).mono ?_
          rintro e w2 ⟨rfl, hw2⟩
          have e3 := isT_op (isT_below (grew hw1 hw2) HT.out)
          go_wp2_with (go_at_call_of 72 c; refine (HD1.out _).mono ?_; rintro e w3 ⟨rfl, rfl⟩; rw [H1.out])
          refine (HD2.out _).mono ?_
          rintro e w3 ⟨rfl, rfl⟩
          rw [H2.out]
          go_wp2_with fail
          go_ret
          exact ⟨by rw [HX.out, ← HC.out]; rfl, grew hw1 hw2⟩
        | true =>
          have hi' : Is false 0 b (.node c kc (.node d kd .nil)) := is_two ho j1 j2
          obtain rfl := dg_leaf j1 hdc
          obtain rfl := dg_leaf j2 hdd
          obtain ⟨v, hv⟩ : ∃ v, val (fun _ => 0) b (.node c .nil (.node d .nil .nil)) = v := ⟨_, rfl⟩
          have hvr := val_range (fun _ => 0) (by intro; omega) b (.node c .nil (.node d .nil .nil))
          rw [hv] at hvr
          have hE := evB_is (x := 0) (y := 0) (z := 0) hi' (is_okS hi' (by simp [tx, F.text])) rfl
          rw [ev3_zero, hv] at hE
          have HE := Lib.hid (fun w => implEvalExpr (bs (tx b (.node c .nil (.node d .nil .nil)))) 0 0 0 w (by rw [bs_size]; simp [tx, F.text]))
          rw [hE] at HE
          simp only [evV] at HE
          rw [← HC.out] at HE
          have HX := Lib.hid (show tx (fold b (.node b1 k1 (.node b2 k2 .nil))).1 (fold b (.node b1 k1 (.node b2 k2 .nil))).2 = [dig v] by rw [HF.out, hdc, hdd, hv]; rfl)
          have H1 := Lib.hid hdc; have H2 := Lib.hid hdd
          have hdr := dig_rune hvr.1 hvr.2
          have v0 := hvr.1
          have v2 := hvr.2
          clear hdc hdd hi ho hi' hE hv hvr
          go_enter Try.func63, Try.ntmps63
          go_wp2_with fail
          refine (IH1.out).mono ?_
          rintro e w1 ⟨rfl, hw1⟩
          have hz1 : w.heap.size ≤ w1.heap.size := hw1.size
          have e1 : w1.cell? ⟨p, 1, none⟩ = some (.slice (some ⟨g, 0, none⟩) 2 cap) := (hw1.cell (p := ⟨p, 1, none⟩) (lt_of_cell c1)).trans c1
          have e2 : w1.cell? ⟨g, 1, none⟩ = some (.pointer (some ⟨p2, 0, none⟩)) := (hw1.cell (p := ⟨g, 1, none⟩) (lt_of_cell d2)).trans d2
          go_wp2_with fail
          refine (IH2.out w1 hw1).mono ?_
          rintro e w2 ⟨rfl, hw2⟩
          have e3 := isT_op (isT_below (grew hw1 hw2) HT.out)
          go_wp2_with (go_at_call_of 72 c; refine (HD1.out _).mono ?_; rintro e w3 ⟨rfl, rfl⟩; rw [H1.out])
          refine (HD2.out _).mono ?_
          rintro e w3 ⟨rfl, rfl⟩
          rw [H2.out]
          go_wp2_with fail
          refine (HE.out _).mono ?_
          rintro e w4 ⟨rfl, hw4⟩
          go_wp2_with fail
          go_ret
          exact ⟨by rw [HX.out]; rfl, grew (grew hw1 hw2) hw4⟩
theorem vars_none {c d : UInt8} (hc : dgB c.toNat = true) (hd : dgB d.toNat = true) : varsIn true [c, d] = [] := by
  unfold varsIn
  rw [List.filter_eq_nil_iff]
  intro x hx h
  have hx' : x.toNat = 120 ∨ x.toNat = 121 ∨ x.toNat = 122 ∨ x.toNat = 88 ∨ x.toNat = 89 ∨ x.toNat = 90 := by
    simp [names] at hx
    rcases hx with h | h | h | h | h | h <;> subst h <;> decide
  have h1 : Lib.indexByte [c, d] x = -1 := by
    apply idx_not
    rw [List.count_eq_zero]
    intro hm
    simp [dgB] at hc hd
    simp at hm
    rcases hm with h | h <;> subst h <;> omega
  simp [occ, h1] at h
theorem vars_some {c d x : UInt8} (hx : x = c ∨ x = d) (hv : vrB false x.toNat = true) : varsIn true [c, d] ≠ [] := by
  unfold varsIn
  intro h
  rw [List.filter_eq_nil_iff] at h
  have hm : x ∈ (names true).data.toList := by
    rcases vr_cases hv with e | e | e | e | e | e <;> (rw [byte_eq (by decide) e]; decide)
  refine h x hm ?_
  have : 0 ≤ Lib.indexByte [c, d] x := by
    apply idx_in
    rcases hx with e | e <;> subst e <;> simp [List.count_cons]
  simp [occ, this]
theorem bs_nil_eq {l : List UInt8} (h : l = []) : (bs l).toList.isEmpty = true := by subst h; rw [ByteArray.toList_eq, bs_list]; rfl
theorem bs_ne_eq {l : List UInt8} (h : l ≠ []) : (bs l).toList.isEmpty = false := by
  rw [ByteArray.toList_eq, bs_list]
  cases l with
  | nil => exact absurd rfl h
  | cons a l => rfl
set_option maxRecDepth 100000 in
set_option maxHeartbeats 8000000 in
theorem specFold (s : ByteArray) (hs : s.size ≤ 200) (n : Nat) : ∀ (b : UInt8) (k : F) (a : Nat) (r : List UInt8) (w : World), k.size ≤ n → Is false 0 b k → s.data.toList.drop a = tx b k ++ r →
    Calls Try.prog 62 #[.string s, .int .i64 (a : Int)] w fun e w' => e = .returned (.tuple #[.string (bs (tx (fold b k).1 (fold b k).2)), .int .i64 ((a : Int) + ((tx b k).length : Int))]) ∧ Below w.heap.size w w' := by
  induction n with
  | zero =>
    intro b k a r w hk hi hd
    rcases is_expr hi with ⟨rfl, hv⟩ | ⟨hv, ho, b1, k1, b2, k2, rfl, i1, i2⟩
    · obtain ⟨hlt, hb', hd1, hx⟩ := at_tx hd
      have HF := Lib.hid ((ops_op s[a]).2 (by rw [hb']; exact leaf_op hv))
      have HX := Lib.hid hx
      have hlt' : (a : Int) < s.size := by omega
      have hi1 : (a : Int) + 1 ≤ s.size := by omega
      have hi2 : ((a : Int) + 1).toNat = a + 1 := by omega
      clear hb' hx hd hd1
      go_enter Try.func62, Try.ntmps62
      go_wp2_with (go_at_call 64; refine (libFind _ [43, 45, 42] rfl s[a] _ (by decide)).mono ?_; rintro e w' ⟨rfl, rfl⟩; rw [HF.out])
      exact bodyPost_ret (v := .tuple #[.string (s.extract a (a + 1)), .int .i64 ((a : Int) + 1)]) (by simp [results, Try.results62, go_sem]) rfl ⟨by rw [HX.out]; rfl, Below.refl _ _⟩
    · simp [F.size] at hk
  | succ n ih =>
    intro b k a r w hk hi hd
    rcases is_expr hi with ⟨rfl, hv⟩ | ⟨hv, ho, b1, k1, b2, k2, rfl, i1, i2⟩
    · obtain ⟨hlt, hb', hd1, hx⟩ := at_tx hd
      have HF := Lib.hid ((ops_op s[a]).2 (by rw [hb']; exact leaf_op hv))
      have HX := Lib.hid hx
      have hlt' : (a : Int) < s.size := by omega
      have hi1 : (a : Int) + 1 ≤ s.size := by omega
      have hi2 : ((a : Int) + 1).toNat = a + 1 := by omega
      clear hb' hx hd hd1
      go_enter Try.func62, Try.ntmps62
      go_wp2_with (go_at_call 64; refine (libFind _ [43, 45, 42] rfl s[a] _ (by decide)).mono ?_; rintro e w' ⟨rfl, rfl⟩; rw [HF.out])
      exact bodyPost_ret (v := .tuple #[.string (s.extract a (a + 1)), .int .i64 ((a : Int) + 1)]) (by simp [results, Try.results62, go_sem]) rfl ⟨by rw [HX.out]; rfl, Below.refl _ _⟩
    · simp only [F.size] at hk
      have hfit := fits_tx hd
      obtain ⟨hlt, hb', hd1, hx⟩ := at_tx hd
      obtain ⟨e1, e2⟩ := at_two hd1
      have f1 := fits_tx e1
      have f2 := fits_tx e2
      have HFF := Lib.hid ((ops_op s[a]).1 (by rw [hb']; exact ho))
      obtain ⟨n1, hn1⟩ : ∃ n1, (tx b1 k1).length = n1 := ⟨_, rfl⟩
      obtain ⟨n2, hn2⟩ : ∃ n2, (tx b2 k2).length = n2 := ⟨_, rfl⟩
      have IH1 := Lib.hid (fun w => ih b1 k1 (a + 1) _ w (by omega) i1 e1)
      have IH2 := Lib.hid (fun w => ih b2 k2 (a + 1 + (tx b1 k1).length) _ w (by omega) i2 e2)
      have j1 := fold_is i1
      have j2 := fold_is i2
      have l1 := fold_len i1
      have l2 := fold_len i2
      rw [hn1] at IH1 f1 IH2 f2 l1
      rw [hn2] at IH2 f2 l2
      rw [show ((a + 1 : Nat) : Int) = (a : Int) + 1 by omega] at IH1
      rw [show ((a + 1 + n1 : Nat) : Int) = (a : Int) + 1 + (n1 : Int) by omega] at IH2
      have HL := Lib.hid (show (((tx b (.node b1 k1 (.node b2 k2 .nil))).length : Nat) : Int) = 1 + (n1 : Int) + (n2 : Int) by rw [← hn1, ← hn2]; simp [tx, F.text]; omega)
      have HF := Lib.hid (fold_two b b1 k1 b2 k2)
      obtain ⟨c, kc, hc⟩ : ∃ c kc, fold b1 k1 = (c, kc) := ⟨_, _, rfl⟩
      obtain ⟨d, kd, hdd⟩ : ∃ d kd, fold b2 k2 = (d, kd) := ⟨_, _, rfl⟩
      rw [hc] at j1 l1 IH1 HF
      rw [hdd] at j2 l2 IH2 HF
      simp only at j1 l1 IH1 HF j2 l2 IH2
      have y1 := bs_size (tx c kc)
      have y2 := bs_size (tx d kd)
      have z1 : (bs (tx c kc)).size ≤ 200 := by omega
      have z2 : (bs (tx d kd)).size ≤ 200 := by omega
      have z0 : (s.extract a (a + 1)).size = 1 := by rw [hx]; rfl
      have HX := Lib.hid hx
      have HC := Lib.hid (show bs [b] ++ bs (tx c kc) ++ bs (tx d kd) = bs (tx b (.node c kc (.node d kd .nil))) by rw [bs_app, bs_app]; simp [tx, F.text])
      have hlt' : (a : Int) < s.size := by omega
      have hi1 : (a : Int) + 1 ≤ s.size := by omega
      have hi2 : ((a : Int) + 1).toNat = a + 1 := by omega
      obtain ⟨iv, hiv⟩ : ∃ iv, Lib.indexByte [43, 45, 42] s[a] = iv := ⟨_, rfl⟩
      have h0 : (0 : Int) ≤ iv := by rw [← hiv]; exact HFF.out
      have HIV := Lib.hid hiv
      clear hb' hd hd1 e1 e2 ih hi hv hn1 hn2 hfit hx hiv hc hdd l1 l2
      by_cases q1 : (tx c kc).length = 1
      · obtain rfl := leaf_one j1 q1
        have g1 : (((bs (tx c .nil)).size : Int) == 1) = true := by simp; omega
        by_cases q2 : (tx d kd).length = 1
        · obtain rfl := leaf_one j2 q2
          have g2 : (((bs (tx d .nil)).size : Int) == 1) = true := by simp; omega
          have HV := Lib.hid (fun w => specVars (bs (tx c .nil) ++ bs (tx d .nil)) true w (by rw [bs_app, bs_size]; simp [tx, F.text]))
          have hcd : (bs (tx c .nil) ++ bs (tx d .nil)).data.toList = [c, d] := by rw [bs_app, bs_list]; rfl
          rw [hcd] at HV
          cases hdc : dgB c.toNat && dgB d.toNat with
          | true =>
            simp only [Bool.and_eq_true] at hdc
            have hi' : Is false 0 b (.node c .nil (.node d .nil .nil)) := is_two ho j1 j2
            obtain ⟨v, hv⟩ : ∃ v, val (fun _ => 0) b (.node c .nil (.node d .nil .nil)) = v := ⟨_, rfl⟩
            have hvr := val_range (fun _ => 0) (by intro; omega) b (.node c .nil (.node d .nil .nil))
            rw [hv] at hvr
            have g3 := bs_nil_eq (vars_none hdc.1 hdc.2)
            have HE := Lib.hid (fun w => specValue (bs (tx b (.node c .nil (.node d .nil .nil)))) (by rw [bs_size]; simp [tx, F.text]) false (fun _ => 0) (fun _ => ⟨Int.le_refl 0, (show (0 : Int) ≤ 2 by decide)⟩) 2 b (.node c .nil (.node d .nil .nil)) 0 [] w (by simp [F.size]) hi' (by rw [bs_list]; simp))
            rw [hv, ← HC.out, ← HX.out] at HE
            have HXX := Lib.hid (show tx (fold b (.node b1 k1 (.node b2 k2 .nil))).1 (fold b (.node b1 k1 (.node b2 k2 .nil))).2 = [dig v] by rw [HF.out, hdc.1, hdc.2, hv]; rfl)
            have HDS := Lib.hid (dig_str hvr.1 hvr.2)
            have HDD := Lib.hid (fun w => specDec v w hvr.1 (by omega))
            obtain ⟨vs, hvs⟩ : ∃ vs, bs (varsIn true [c, d]) = vs := ⟨_, rfl⟩
            rw [hvs] at g3 HV
            clear hdc ho hi' hv hvr hvs hcd q1 q2 j1 j2 y1 y2
            go_enter Try.func62, Try.ntmps62
            go_wp2_with (go_at_call 64; refine (libFind _ [43, 45, 42] rfl s[a] _ (by decide)).mono ?_; rintro e w' ⟨rfl, rfl⟩; rw [HIV.out])
            refine (IH1.out _).mono ?_
            rintro e w1 ⟨rfl, hw1⟩
            go_wp2_with fail
            refine (IH2.out _).mono ?_
            rintro e w2 ⟨rfl, hw2⟩
            go_wp2_with fail
            refine (HV.out _).mono ?_
            rintro e w3 ⟨rfl, rfl⟩
            go_wp2_with fail
            refine (HE.out _).mono ?_
            rintro e w4 ⟨rfl, hw4⟩
            go_wp2_with fail
            refine (HDD.out _).mono ?_
            rintro e w5 ⟨rfl, hw5⟩
            go_wp2_with fail
            exact bodyPost_ret (v := .tuple #[.string (strOfNums [48 + v]), .int .i64 ((a : Int) + 1 + (n1 : Int) + (n2 : Int))]) (by simp [results, Try.results62, go_sem]) rfl
              ⟨by rw [HXX.out, HDS.out, HL.out, show (a : Int) + (1 + (n1 : Int) + (n2 : Int)) = (a : Int) + 1 + (n1 : Int) + (n2 : Int) by omega], grew (grew (grew hw1 hw2) hw4) hw5⟩
          | false =>
            have g3 := bs_ne_eq (show varsIn true [c, d] ≠ [] by
              rcases is_expr j1 with ⟨_, h1⟩ | ⟨_, _, _, _, _, _, h1, _⟩
              · rcases is_expr j2 with ⟨_, h2⟩ | ⟨_, _, _, _, _, _, h2, _⟩
                · cases x1 : dgB c.toNat with
                  | false => rw [x1] at h1; exact vars_some (.inl rfl) (by simpa using h1)
                  | true =>
                    rw [x1] at hdc
                    have x2 : dgB d.toNat = false := by simpa using hdc
                    rw [x2] at h2
                    exact vars_some (.inr rfl) (by simpa using h2)
                · cases h2
              · cases h1)
            obtain ⟨vs, hvs⟩ : ∃ vs, bs (varsIn true [c, d]) = vs := ⟨_, rfl⟩
            rw [hvs] at g3 HV
            have HXX := Lib.hid (show tx (fold b (.node b1 k1 (.node b2 k2 .nil))).1 (fold b (.node b1 k1 (.node b2 k2 .nil))).2 = tx b (.node c .nil (.node d .nil .nil)) by rw [HF.out, hdc]; rfl)
            clear hdc ho hvs hcd q1 q2 j1 j2 y1 y2
            go_enter Try.func62, Try.ntmps62
            go_wp2_with (go_at_call 64; refine (libFind _ [43, 45, 42] rfl s[a] _ (by decide)).mono ?_; rintro e w' ⟨rfl, rfl⟩; rw [HIV.out])
            refine (IH1.out _).mono ?_
            rintro e w1 ⟨rfl, hw1⟩
            go_wp2_with fail
            refine (IH2.out _).mono ?_
            rintro e w2 ⟨rfl, hw2⟩
            go_wp2_with fail
            refine (HV.out _).mono ?_
            rintro e w3 ⟨rfl, rfl⟩
            go_wp2_with fail
            exact bodyPost_ret (v := .tuple #[.string (s.extract a (a + 1) ++ bs (tx c (.nil)) ++ bs (tx d (.nil))), .int .i64 ((a : Int) + 1 + (n1 : Int) + (n2 : Int))]) (by simp [results, Try.results62, go_sem]) rfl
              ⟨by rw [HXX.out, HX.out, HC.out, HL.out, show (a : Int) + (1 + (n1 : Int) + (n2 : Int)) = (a : Int) + 1 + (n1 : Int) + (n2 : Int) by omega], grew hw1 hw2⟩
        · have g2 : (((bs (tx d kd)).size : Int) == 1) = false := by simp; omega
          have hdd : dgB d.toNat = false := by
            cases h : dgB d.toNat with
            | false => rfl
            | true => exact absurd (by rw [dg_leaf j2 h]; rfl) q2
          have HXX := Lib.hid (show tx (fold b (.node b1 k1 (.node b2 k2 .nil))).1 (fold b (.node b1 k1 (.node b2 k2 .nil))).2 = tx b (.node c .nil (.node d kd .nil)) by rw [HF.out, hdd, Bool.and_false]; rfl)
          clear ho q1 q2 j1 j2 hdd
          have y2' : ¬ (bs (tx d kd)).size = 1 := by intro e; rw [e] at g2; simp at g2
          go_enter Try.func62, Try.ntmps62
          go_wp2_with (go_at_call 64; refine (libFind _ [43, 45, 42] rfl s[a] _ (by decide)).mono ?_; rintro e w' ⟨rfl, rfl⟩; rw [HIV.out])
          refine (IH1.out _).mono ?_
          rintro e w1 ⟨rfl, hw1⟩
          go_wp2_with fail
          refine (IH2.out _).mono ?_
          rintro e w2 ⟨rfl, hw2⟩
          go_wp2_with fail
          exact bodyPost_ret (v := .tuple #[.string (s.extract a (a + 1) ++ bs (tx c (.nil)) ++ bs (tx d kd)), .int .i64 ((a : Int) + 1 + (n1 : Int) + (n2 : Int))]) (by simp [results, Try.results62, go_sem]) rfl
            ⟨by rw [HXX.out, HX.out, HC.out, HL.out, show (a : Int) + (1 + (n1 : Int) + (n2 : Int)) = (a : Int) + 1 + (n1 : Int) + (n2 : Int) by omega], grew hw1 hw2⟩
      · have g1 : (((bs (tx c kc)).size : Int) == 1) = false := by simp; omega
        have hdd : dgB c.toNat = false := by
          cases h : dgB c.toNat with
          | false => rfl
          | true => exact absurd (by rw [dg_leaf j1 h]; rfl) q1
        have HXX := Lib.hid (show tx (fold b (.node b1 k1 (.node b2 k2 .nil))).1 (fold b (.node b1 k1 (.node b2 k2 .nil))).2 = tx b (.node c kc (.node d kd .nil)) by rw [HF.out, hdd, Bool.false_and]; rfl)
        clear ho q1 j1 j2 hdd
        have y1' : ¬ (bs (tx c kc)).size = 1 := by intro e; rw [e] at g1; simp at g1
        go_enter Try.func62, Try.ntmps62
        go_wp2_with (go_at_call 64; refine (libFind _ [43, 45, 42] rfl s[a] _ (by decide)).mono ?_; rintro e w' ⟨rfl, rfl⟩; rw [HIV.out])
        refine (IH1.out _).mono ?_
        rintro e w1 ⟨rfl, hw1⟩
        go_wp2_with fail
        refine (IH2.out _).mono ?_
        rintro e w2 ⟨rfl, hw2⟩
        go_wp2_with fail
        exact bodyPost_ret (v := .tuple #[.string (s.extract a (a + 1) ++ bs (tx c kc) ++ bs (tx d kd)), .int .i64 ((a : Int) + 1 + (n1 : Int) + (n2 : Int))]) (by simp [results, Try.results62, go_sem]) rfl
          ⟨by rw [HXX.out, HX.out, HC.out, HL.out, show (a : Int) + (1 + (n1 : Int) + (n2 : Int)) = (a : Int) + 1 + (n1 : Int) + (n2 : Int) by omega], grew hw1 hw2⟩
/-- What the function answers. -/
def foldV (s : ByteArray) : Option ByteArray := if okS false 0 200 s then (match P false [0] s.data.toList with | some (.node b k _, _) => some (bs (tx (fold b k).1 (fold b k).2)) | _ => none) else none
def strV : Option ByteArray → Value
  | none => .tuple #[.string ⟨#[]⟩, .bool false]
  | some v => .tuple #[.string v, .bool true]
theorem foldV_is {b : UInt8} {k : F} (hi : Is false 0 b k) (hok : okS false 0 200 (bs (tx b k)) = true) : foldV (bs (tx b k)) = some (bs (tx (fold b k).1 (fold b k).2)) := by
  have := P_is hi []
  rw [List.append_nil] at this
  simp only [foldV, hok, bs_list, this]; rfl
theorem foldV_no {s : ByteArray} (hok : okS false 0 200 s = false) : foldV s = none := by simp [foldV, hok]
theorem implFoldExpr (s : ByteArray) (w : World) (hs : s.size ≤ 1048576) : Calls Try.prog 39 #[.string s] w fun e w' => e = .returned (strV (foldV s)) ∧ Below w.heap.size w w' := by
  have hp := Lib.hid (implParseExpr s w hs)
  go_enter Try.func39, Try.ntmps39
  go_wp2_with fail
  refine (hp.out).mono ?_
  rintro e w1 (⟨h, rfl, hb⟩ | ⟨b, k, p, h, hi, rfl, rfl, hT, hb⟩)
  · have H := Lib.hid (foldV_no h)
    clear h
    go_wp2_with fail
    exact bodyPost_ret (v := .tuple #[.string ⟨#[]⟩, .bool false]) (by simp [results, Try.results39, go_sem]) rfl ⟨by rw [H.out]; rfl, hb⟩
  · have H := Lib.hid (foldV_is hi h)
    have hl := (okS_is h).1
    rw [bs_size] at hl
    have HC := Lib.hid (implFold k.size b k p w1 (Nat.le_refl _) hi hl hT)
    obtain ⟨r, hr⟩ : ∃ r, bs (tx (fold b k).1 (fold b k).2) = r := ⟨_, rfl⟩
    rw [hr] at HC H
    clear h hT hi hl hr
    go_wp2_with fail
    refine (HC.out).mono ?_
    rintro e w2 ⟨rfl, hb2⟩
    go_wp2_with fail
    exact bodyPost_ret (v := .tuple #[.string r, .bool true]) (by simp [results, Try.results39, go_sem]) rfl ⟨by rw [H.out]; rfl, grew hb hb2⟩
theorem specFoldExpr (s : ByteArray) (w : World) (hs : s.size ≤ 1048576) : Calls Try.prog 38 #[.string s] w fun e w' => e = .returned (strV (foldV s)) ∧ Below w.heap.size w w' := by
  have hv := Lib.hid (fun w => specExprValid s w hs)
  cases h : okS false 0 200 s with
  | false =>
    have H := Lib.hid (foldV_no h)
    rw [h] at hv
    clear h
    go_enter Try.func38, Try.ntmps38
    go_wp2_with fail
    refine (hv.out _).mono ?_
    rintro e w1 ⟨rfl, hb⟩
    go_wp2_with fail
    exact bodyPost_ret (v := .tuple #[.string ⟨#[]⟩, .bool false]) (by simp [results, Try.results38, go_sem]) rfl ⟨by rw [H.out]; rfl, hb⟩
  | true =>
    obtain ⟨hl, b, k, hi, rfl⟩ := okS_is h
    have H := Lib.hid (foldV_is hi h)
    rw [h] at hv
    have HC := Lib.hid (fun w => specFold (bs (tx b k)) hl k.size b k 0 [] w (Nat.le_refl _) hi (by rw [bs_list]; simp))
    obtain ⟨r, hr⟩ : ∃ r, bs (tx (fold b k).1 (fold b k).2) = r := ⟨_, rfl⟩
    rw [hr] at HC H
    clear h hr
    go_enter Try.func38, Try.ntmps38
    go_wp2_with fail
    refine (hv.out _).mono ?_
    rintro e w1 ⟨rfl, hb⟩
    go_wp2_with fail
    refine (HC.out _).mono ?_
    rintro e w2 ⟨rfl, hb2⟩
    go_wp2_with fail
    exact bodyPost_ret (v := .tuple #[.string r, .bool true]) (by simp [results, Try.results38, go_sem]) rfl ⟨by rw [H.out]; rfl, grew hb hb2⟩
theorem lawFoldExpr (s : ByteArray) (w : World) (hs : s.size ≤ maxLen) : Calls Try.prog 14 #[.string s] w fun e w' => e = .returned (.bool true) ∧ Below w.heap.size w w' := by
  by_cases hbig : s.size ≤ 1048576
  · have h1 : (s.size : Int) ≤ 1048576 := by omega
    have HA := Lib.hid (fun w => specFoldExpr s w hbig)
    have HB := Lib.hid (fun w => implFoldExpr s w hbig)
    cases h : foldV s with
    | none =>
      rw [h] at HA HB
      simp only [strV] at HA HB
      clear h
      go_enter Try.func14, Try.ntmps14
      go_wp2_with (first
        | (go_at_call 38; refine (HA.out _).mono ?_; rintro e w1 ⟨rfl, hb1⟩)
        | (go_at_call 39; refine (HB.out _).mono ?_; rintro e w2 ⟨rfl, hb2⟩))
      go_ret
      exact ⟨rfl, grew hb1 hb2⟩
    | some v =>
      rw [h] at HA HB
      simp only [strV] at HA HB
      clear h
      go_enter Try.func14, Try.ntmps14
      go_wp2_with (first
        | (go_at_call 38; refine (HA.out _).mono ?_; rintro e w1 ⟨rfl, hb1⟩)
        | (go_at_call 39; refine (HB.out _).mono ?_; rintro e w2 ⟨rfl, hb2⟩))
      go_ret
      exact ⟨rfl, grew hb1 hb2⟩
  · have h1 : (1048576 : Int) < (s.size : Int) := by omega
    go_enter Try.func14, Try.ntmps14
    go_wp2_with fail
    go_ret
    exact ⟨rfl, Below.refl _ _⟩
end Go.Proofs.Ytfmmpahafliklaa.Fd
