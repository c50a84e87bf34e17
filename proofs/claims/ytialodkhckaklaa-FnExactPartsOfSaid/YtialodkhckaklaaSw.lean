/- Contracts: the usual form of expressions and of tests. -/
import Derived.Test.YtialodkhckaklaaPrs
import Derived.Deep.RegionWith
namespace Go.Proofs.Ytialodkhckaklaa.Sw
open Go.RowKit Go.Deep Go.Proofs.Ytialodkhckaklaa.Pl Go.Proofs.Ytialodkhckaklaa.Bi Go.Proofs.Ytialodkhckaklaa.Fi Go.Proofs.Ytialodkhckaklaa.Ed Go.Proofs.Ytialodkhckaklaa.Ps
set_option linter.unusedVariables false

theorem bs_app (a b : List UInt8) : bs a ++ bs b = bs (a ++ b) := by
  apply ByteArray.ext; simp [bs]
theorem rune_one (b : UInt8) (h : b.toNat < 128) : Utf8.encode (b.toNat : Int) = bs [b] := by
  refine bs_of ?_
  have v : Utf8.valid (b.toNat : Int) = true := by simp [Utf8.valid]; omega
  simp [Utf8.encode, v, h]
/-- The usual form's length. -/
theorem shE_len (b : UInt8) (k : F) : (shE b k).length ≤ 5 * (tx b k).length := by
  have : ∀ n (b : UInt8) (k : F), k.size ≤ n → (shE b k).length ≤ 5 * (tx b k).length := by
    intro n
    induction n with
    | zero =>
      intro b k hk
      cases k with
      | nil => simp [shE_leaf, tx, F.text]
      | node _ _ _ => simp [F.size] at hk
    | succ n ih =>
      intro b k hk
      match k, hk with
      | .nil, _ => simp [shE_leaf, tx, F.text]
      | .node b1 k1 .nil, _ => (simp [shE, F.one, shG, F.cata, tx]; omega)
      | .node b1 k1 (.node b2 k2 .nil), hk =>
        simp only [F.size] at hk
        have h1 := ih b1 k1 (by omega)
        have h2 := ih b2 k2 (by omega)
        rw [shE_two]
        simp only [tx, F.text, List.length_cons, List.length_append, List.length_nil] at h1 h2 ⊢
        omega
      | .node b1 k1 (.node b2 k2 (.node b3 k3 k4)), _ => (simp [shE, F.one, shG, F.cata, tx]; omega)
  exact this _ b k (Nat.le_refl _)
theorem shE_size {b : UInt8} {k : F} {n : Nat} (h : (tx b k).length ≤ n) : (bs (shE b k)).size ≤ 5 * n := by
  have := shE_len b k; rw [bs_size]; omega
theorem shT_len {wide : Bool} (n : Nat) : ∀ (b : UInt8) (k : F), k.size ≤ n → Is wide 1 b k → (shT b k).length ≤ 5 * (tx b k).length := by
  induction n with
  | zero =>
    intro b k hk hi
    rcases is_test hi with ⟨rfl, hb | hb⟩ | ⟨hb, b1, k1, b2, k2, rfl, i1, i2⟩ | ⟨hb, b1, k1, rfl, i1⟩ | ⟨hb, b1, k1, b2, k2, rfl, i1, i2⟩
    · rw [shT_t hb]; simp [tx, F.text]
    · rw [shT_f hb]; simp [tx, F.text]
    · simp [F.size] at hk
    · simp [F.size] at hk
    · simp [F.size] at hk
  | succ n ih =>
    intro b k hk hi
    rcases is_test hi with ⟨rfl, hb | hb⟩ | ⟨hb, b1, k1, b2, k2, rfl, i1, i2⟩ | ⟨hb, b1, k1, rfl, i1⟩ | ⟨hb, b1, k1, b2, k2, rfl, i1, i2⟩
    · rw [shT_t hb]; simp [tx, F.text]
    · rw [shT_f hb]; simp [tx, F.text]
    · have h1 := shE_len b1 k1
      have h2 := shE_len b2 k2
      rw [shT_cmp hb]
      simp only [tx, F.text, List.length_cons, List.length_append, List.length_nil] at h1 h2 ⊢
      omega
    · simp only [F.size] at hk
      have h1 := ih b1 k1 (by omega) i1
      rw [shT_not hb]
      simp only [tx, F.text, List.length_cons, List.length_append, List.length_nil] at h1 ⊢
      omega
    · simp only [F.size] at hk
      have h1 := ih b1 k1 (by omega) i1
      have h2 := ih b2 k2 (by omega) i2
      rw [shT_two hb]
      simp only [tx, F.text, List.length_cons, List.length_append, List.length_nil] at h1 h2 ⊢
      omega
theorem shT_size {wide : Bool} {b : UInt8} {k : F} {n : Nat} (hi : Is wide 1 b k) (h : (tx b k).length ≤ n) : (bs (shT b k)).size ≤ 5 * n := by
  have := shT_len k.size b k (Nat.le_refl _) hi; rw [bs_size]; omega
theorem drewT {w : World} {p : Nat} {b : UInt8} {k : F} (m : Nat) (h : isT w p b k) : isT (w.drewN m) p b k := isT_below (below_drewN (Below.refl _ _) m) h

set_option maxHeartbeats 4000000 in
theorem implShowE (wide : Bool) (n : Nat) : ∀ (b : UInt8) (k : F) (p : Nat) (w : World), k.size ≤ n → Is wide 0 b k → (tx b k).length ≤ 1000 → isT w p b k →
    Calls Try.prog 78 #[.pointer (some ⟨p, 0, none⟩)] w fun e w' => e = .returned (.string (bs (shE b k))) ∧ ∃ m, w' = w.drewN m := by
  induction n with
  | zero =>
    intro b k p w hk hi hl hT
    rcases is_expr hi with ⟨rfl, hv⟩ | ⟨hv, ho, b1, k1, b2, k2, rfl, i1, i2⟩
    · have h1 := isT_none hT
      have h2 := isT_text hT
      go_enter Try.func78, Try.ntmps78
      go_wp2_with fail
      go_ret
      exact ⟨rfl, 0, rfl⟩
    · simp [F.size] at hk
  | succ n ih =>
    intro b k p w hk hi hl hT
    rcases is_expr hi with ⟨rfl, hv⟩ | ⟨hv, ho, b1, k1, b2, k2, rfl, i1, i2⟩
    · have h1 := isT_none hT
      have h2 := isT_text hT
      go_enter Try.func78, Try.ntmps78
      go_wp2_with fail
      go_ret
      exact ⟨rfl, 0, rfl⟩
    · simp only [F.size] at hk
      simp only [tx, F.text, List.length_cons, List.length_append, List.length_nil] at hl
      have h0 := isT_op hT
      obtain ⟨g, cap, p1, p2, c1, d1, d2, t1, t2⟩ := isT_two hT
      have IH1 := Lib.hid (fun m => ih b1 k1 p1 (w.drewN m) (by omega) i1 (by simp only [tx, List.length_cons]; omega) (drewT m t1))
      have IH2 := Lib.hid (fun m => ih b2 k2 p2 (w.drewN m) (by omega) i2 (by simp only [tx, List.length_cons]; omega) (drewT m t2))
      have HT := Lib.hid hT
      have hb7 : (b.toNat : Int) < 128 := by omega
      have hr := rune_one b (by omega)
      have z0 : (bs [b]).size = 1 := rfl
      have z1 : (bs (shE b1 k1)).size ≤ 5000 := shE_size (n := 1000) (by simp only [tx, List.length_cons]; omega)
      have z2 : (bs (shE b2 k2)).size ≤ 5000 := shE_size (n := 1000) (by simp only [tx, List.length_cons]; omega)
      have HS := Lib.hid (show (⟨#[40]⟩ ++ bs (shE b1 k1) ++ bs [b] ++ bs (shE b2 k2) ++ ⟨#[41]⟩ : ByteArray) = bs (shE b (.node b1 k1 (.node b2 k2 .nil))) by
        rw [shE_two]; apply ByteArray.ext; simp [bs])
      clear hT t1 t2 ih hi hv ho
      go_enter Try.func78, Try.ntmps78
      go_wp2_with fail
      go_quiet (first | (go_at_call_of 78 p1; exact Calls.quiet_of (IH1.out _)) | (go_at_call_of 78 p2; exact Calls.quiet_of (IH2.out _)))
      go_wp2_with fail
      go_ret
      exact ⟨by rw [← HS.out]; rfl, _, rfl⟩
set_option maxHeartbeats 4000000 in
theorem implShowT (wide : Bool) (n : Nat) : ∀ (b : UInt8) (k : F) (p : Nat) (w : World), k.size ≤ n → Is wide 1 b k → (tx b k).length ≤ 1000 → isT w p b k →
    Calls Try.prog 79 #[.pointer (some ⟨p, 0, none⟩)] w fun e w' => e = .returned (.string (bs (shT b k))) ∧ ∃ m, w' = w.drewN m := by
  induction n with
  | zero =>
    intro b k p w hk hi hl hT
    rcases is_test hi with ⟨rfl, hb | hb⟩ | ⟨hb, b1, k1, b2, k2, rfl, i1, i2⟩ | ⟨hb, b1, k1, rfl, i1⟩ | ⟨hb, b1, k1, b2, k2, rfl, i1, i2⟩
    · have h0 := isT_op hT
      have HS := Lib.hid (show bs (shT b .nil) = _ by rw [shT_t hb])
      have g116 : ((b.toNat : Int) == 116) = true := by simp; omega
      have g102 : ((b.toNat : Int) == 102) = false := by simp; omega
      have g61 : ((b.toNat : Int) == 61) = false := by simp; omega
      have g60 : ((b.toNat : Int) == 60) = false := by simp; omega
      have g33 : ((b.toNat : Int) == 33) = false := by simp; omega
      clear hb
      go_enter Try.func79, Try.ntmps79
      go_wp2_with fail
      go_ret
      exact ⟨by rw [HS.out]; rfl, 0, rfl⟩
    · have h0 := isT_op hT
      have HS := Lib.hid (show bs (shT b .nil) = _ by rw [shT_f hb])
      have g116 : ((b.toNat : Int) == 116) = false := by simp; omega
      have g102 : ((b.toNat : Int) == 102) = true := by simp; omega
      have g61 : ((b.toNat : Int) == 61) = false := by simp; omega
      have g60 : ((b.toNat : Int) == 60) = false := by simp; omega
      have g33 : ((b.toNat : Int) == 33) = false := by simp; omega
      clear hb
      go_enter Try.func79, Try.ntmps79
      go_wp2_with fail
      go_ret
      exact ⟨by rw [HS.out]; rfl, 0, rfl⟩
    · simp [F.size] at hk
    · simp [F.size] at hk
    · simp [F.size] at hk
  | succ n ih =>
    intro b k p w hk hi hl hT
    rcases is_test hi with ⟨rfl, hb | hb⟩ | ⟨hb, b1, k1, b2, k2, rfl, i1, i2⟩ | ⟨hb, b1, k1, rfl, i1⟩ | ⟨hb, b1, k1, b2, k2, rfl, i1, i2⟩
    · have h0 := isT_op hT
      have HS := Lib.hid (show bs (shT b .nil) = _ by rw [shT_t hb])
      have g116 : ((b.toNat : Int) == 116) = true := by simp; omega
      have g102 : ((b.toNat : Int) == 102) = false := by simp; omega
      have g61 : ((b.toNat : Int) == 61) = false := by simp; omega
      have g60 : ((b.toNat : Int) == 60) = false := by simp; omega
      have g33 : ((b.toNat : Int) == 33) = false := by simp; omega
      clear hb
      go_enter Try.func79, Try.ntmps79
      go_wp2_with fail
      go_ret
      exact ⟨by rw [HS.out]; rfl, 0, rfl⟩
    · have h0 := isT_op hT
      have HS := Lib.hid (show bs (shT b .nil) = _ by rw [shT_f hb])
      have g116 : ((b.toNat : Int) == 116) = false := by simp; omega
      have g102 : ((b.toNat : Int) == 102) = true := by simp; omega
      have g61 : ((b.toNat : Int) == 61) = false := by simp; omega
      have g60 : ((b.toNat : Int) == 60) = false := by simp; omega
      have g33 : ((b.toNat : Int) == 33) = false := by simp; omega
      clear hb
      go_enter Try.func79, Try.ntmps79
      go_wp2_with fail
      go_ret
      exact ⟨by rw [HS.out]; rfl, 0, rfl⟩
    · rcases hb with hb | hb
      · simp only [F.size] at hk
        simp only [tx, F.text, List.length_cons, List.length_append, List.length_nil] at hl
        have h0 := isT_op hT
        obtain ⟨g, cap, p1, p2, c1, d1, d2, t1, t2⟩ := isT_two hT
        have IH1 := Lib.hid (fun m => (implShowE wide n) b1 k1 p1 (w.drewN m) (by omega) i1 (by simp only [tx, List.length_cons]; omega) (drewT m t1))
        have IH2 := Lib.hid (fun m => (implShowE wide n) b2 k2 p2 (w.drewN m) (by omega) i2 (by simp only [tx, List.length_cons]; omega) (drewT m t2))
        have HT := Lib.hid hT
        have hb7 : (b.toNat : Int) < 128 := by omega
        have hr := rune_one b (by omega)
        have z0 : (bs [b]).size = 1 := rfl
        have z1 : (bs (shE b1 k1)).size ≤ 5000 := shE_size (n := 1000) (by simp only [tx, List.length_cons]; omega)
        have z2 : (bs (shE b2 k2)).size ≤ 5000 := shE_size (n := 1000) (by simp only [tx, List.length_cons]; omega)
        have HS := Lib.hid (show (bs (shE b1 k1) ++ bs [b] ++ bs (shE b2 k2) : ByteArray) = bs (shT b (.node b1 k1 (.node b2 k2 .nil))) by
          rw [shT_cmp (by omega)]; apply ByteArray.ext; simp [bs])
        clear hT t1 t2 ih hi
        have g116 : ((b.toNat : Int) == 116) = false := by simp; omega
        have g102 : ((b.toNat : Int) == 102) = false := by simp; omega
        have g61 : ((b.toNat : Int) == 61) = true := by simp; omega
        have g60 : ((b.toNat : Int) == 60) = false := by simp; omega
        have g33 : ((b.toNat : Int) == 33) = false := by simp; omega
        clear hb
        go_enter Try.func79, Try.ntmps79
        go_wp2_with fail
        go_quiet (first | (go_at_call_of 78 p1; exact Calls.quiet_of (IH1.out _)) | (go_at_call_of 78 p2; exact Calls.quiet_of (IH2.out _)))
        go_wp2_with fail
        go_ret
        exact ⟨by rw [← HS.out]; rfl, _, rfl⟩
      · simp only [F.size] at hk
        simp only [tx, F.text, List.length_cons, List.length_append, List.length_nil] at hl
        have h0 := isT_op hT
        obtain ⟨g, cap, p1, p2, c1, d1, d2, t1, t2⟩ := isT_two hT
        have IH1 := Lib.hid (fun m => (implShowE wide n) b1 k1 p1 (w.drewN m) (by omega) i1 (by simp only [tx, List.length_cons]; omega) (drewT m t1))
        have IH2 := Lib.hid (fun m => (implShowE wide n) b2 k2 p2 (w.drewN m) (by omega) i2 (by simp only [tx, List.length_cons]; omega) (drewT m t2))
        have HT := Lib.hid hT
        have hb7 : (b.toNat : Int) < 128 := by omega
        have hr := rune_one b (by omega)
        have z0 : (bs [b]).size = 1 := rfl
        have z1 : (bs (shE b1 k1)).size ≤ 5000 := shE_size (n := 1000) (by simp only [tx, List.length_cons]; omega)
        have z2 : (bs (shE b2 k2)).size ≤ 5000 := shE_size (n := 1000) (by simp only [tx, List.length_cons]; omega)
        have HS := Lib.hid (show (bs (shE b1 k1) ++ bs [b] ++ bs (shE b2 k2) : ByteArray) = bs (shT b (.node b1 k1 (.node b2 k2 .nil))) by
          rw [shT_cmp (by omega)]; apply ByteArray.ext; simp [bs])
        clear hT t1 t2 ih hi
        have g116 : ((b.toNat : Int) == 116) = false := by simp; omega
        have g102 : ((b.toNat : Int) == 102) = false := by simp; omega
        have g61 : ((b.toNat : Int) == 61) = false := by simp; omega
        have g60 : ((b.toNat : Int) == 60) = true := by simp; omega
        have g33 : ((b.toNat : Int) == 33) = false := by simp; omega
        clear hb
        go_enter Try.func79, Try.ntmps79
        go_wp2_with fail
        go_quiet (first | (go_at_call_of 78 p1; exact Calls.quiet_of (IH1.out _)) | (go_at_call_of 78 p2; exact Calls.quiet_of (IH2.out _)))
        go_wp2_with fail
        go_ret
        exact ⟨by rw [← HS.out]; rfl, _, rfl⟩
    · simp only [F.size] at hk
      simp only [tx, F.text, List.length_cons, List.length_append, List.length_nil] at hl
      have h0 := isT_op hT
      obtain ⟨g, cap, p1, c1, d1, t1⟩ := isT_one hT
      have IH1 := Lib.hid (ih b1 k1 p1 w (by omega) i1 (by simp only [tx, List.length_cons]; omega) t1)
      have z1 : (bs (shT b1 k1)).size ≤ 5000 := shT_size (n := 1000) i1 (by simp only [tx, List.length_cons]; omega)
      have HS := Lib.hid (show (⟨#[33, 40]⟩ ++ bs (shT b1 k1) ++ ⟨#[41]⟩ : ByteArray) = bs (shT b (.node b1 k1 .nil)) by
        rw [shT_not hb]; apply ByteArray.ext; simp [bs])
      clear hT t1 ih hi
      have g116 : ((b.toNat : Int) == 116) = false := by simp; omega
      have g102 : ((b.toNat : Int) == 102) = false := by simp; omega
      have g61 : ((b.toNat : Int) == 61) = false := by simp; omega
      have g60 : ((b.toNat : Int) == 60) = false := by simp; omega
      have g33 : ((b.toNat : Int) == 33) = true := by simp; omega
      clear hb
      go_enter Try.func79, Try.ntmps79
      go_wp2_with fail
      refine (IH1.out).mono ?_
      rintro e w' ⟨rfl, m, rfl⟩
      go_wp2_with fail
      go_ret
      exact ⟨by rw [← HS.out]; rfl, m, rfl⟩
    · simp only [F.size] at hk
      simp only [tx, F.text, List.length_cons, List.length_append, List.length_nil] at hl
      have h0 := isT_op hT
      obtain ⟨g, cap, p1, p2, c1, d1, d2, t1, t2⟩ := isT_two hT
      have IH1 := Lib.hid (fun m => ih b1 k1 p1 (w.drewN m) (by omega) i1 (by simp only [tx, List.length_cons]; omega) (drewT m t1))
      have IH2 := Lib.hid (fun m => ih b2 k2 p2 (w.drewN m) (by omega) i2 (by simp only [tx, List.length_cons]; omega) (drewT m t2))
      have HT := Lib.hid hT
      have hb7 : (b.toNat : Int) < 128 := by omega
      have hr := rune_one b (by omega)
      have z0 : (bs [b]).size = 1 := rfl
      have z1 : (bs (shT b1 k1)).size ≤ 5000 := shT_size (n := 1000) i1 (by simp only [tx, List.length_cons]; omega)
      have z2 : (bs (shT b2 k2)).size ≤ 5000 := shT_size (n := 1000) i2 (by simp only [tx, List.length_cons]; omega)
      have HS := Lib.hid (show (⟨#[40]⟩ ++ bs (shT b1 k1) ++ bs [b] ++ bs (shT b2 k2) ++ ⟨#[41]⟩ : ByteArray) = bs (shT b (.node b1 k1 (.node b2 k2 .nil))) by
        rw [shT_two (by omega)]; apply ByteArray.ext; simp [bs])
      clear hT t1 t2 ih hi
      have g116 : ((b.toNat : Int) == 116) = false := by simp; omega
      have g102 : ((b.toNat : Int) == 102) = false := by simp; omega
      have g61 : ((b.toNat : Int) == 61) = false := by simp; omega
      have g60 : ((b.toNat : Int) == 60) = false := by simp; omega
      have g33 : ((b.toNat : Int) == 33) = false := by simp; omega
      clear hb
      go_enter Try.func79, Try.ntmps79
      go_wp2_with fail
      go_quiet (first | (go_at_call_of 79 p1; exact Calls.quiet_of (IH1.out _)) | (go_at_call_of 79 p2; exact Calls.quiet_of (IH2.out _)))
      go_wp2_with fail
      go_ret
      exact ⟨by rw [← HS.out]; rfl, _, rfl⟩
theorem at_tx {s : ByteArray} {a : Nat} {b : UInt8} {k : F} {r : List UInt8} (h : s.data.toList.drop a = tx b k ++ r) : ∃ hlt : a < s.size, s[a] = b ∧ s.data.toList.drop (a + 1) = k.text ++ r ∧ s.extract a (a + 1) = bs [b] := by
  have hlen := congrArg List.length h
  simp only [List.length_drop, List.length_append, tx, List.length_cons, Array.length_toList] at hlen
  have hz : s.data.size = s.size := rfl
  have hlt : a < s.size := by omega
  have hd := drop_at hlt
  rw [hd] at h
  simp only [tx, List.cons_append, List.cons.injEq] at h
  refine ⟨hlt, h.1, h.2, bs_of ?_⟩
  simp only [ByteArray.data_extract, Array.toList_extract, List.extract_eq_take_drop]
  rw [hd, h.1, show a + 1 - a = 1 by omega]; rfl
theorem at_two {l : List UInt8} {a : Nat} {b1 b2 : UInt8} {k1 k2 : F} {r : List UInt8} (h : l.drop a = (F.node b1 k1 (.node b2 k2 .nil)).text ++ r) :
    l.drop a = tx b1 k1 ++ (tx b2 k2 ++ r) ∧ l.drop (a + (tx b1 k1).length) = tx b2 k2 ++ r := by
  have e : l.drop a = tx b1 k1 ++ (tx b2 k2 ++ r) := by rw [h]; simp [F.text, tx]
  exact ⟨e, by rw [← List.drop_drop, e]; simp⟩
theorem at_one {l : List UInt8} {a : Nat} {b1 : UInt8} {k1 : F} {r : List UInt8} (h : l.drop a = (F.node b1 k1 .nil).text ++ r) : l.drop a = tx b1 k1 ++ r := by
  rw [h]; simp [F.text, tx]
theorem fits_tx {s : ByteArray} {a : Nat} {b : UInt8} {k : F} {r : List UInt8} (h : s.data.toList.drop a = tx b k ++ r) : a + (tx b k).length ≤ s.size := by
  have hlen := congrArg List.length h
  have ht := tx_len b k
  simp only [List.length_drop, List.length_append, Array.length_toList] at hlen
  have hz : s.data.size = s.size := rfl
  omega
theorem leaf_op {wide : Bool} {b : UInt8} (h : (vrB wide b.toNat || dgB b.toNat) = true) : ¬ (b.toNat = 43 ∨ b.toNat = 45 ∨ b.toNat = 42) := by
  intro e
  cases wide <;> simp [vrB, dgB] at h <;> omega
set_option maxHeartbeats 4000000 in
theorem specShow (s : ByteArray) (hs : s.size ≤ 1000) (wide : Bool) (n : Nat) : ∀ (b : UInt8) (k : F) (a : Nat) (r : List UInt8) (w : World), k.size ≤ n → Is wide 0 b k → s.data.toList.drop a = tx b k ++ r →
    Calls Try.prog 76 #[.string s, .int .i64 (a : Int)] w fun e w' => e = .returned (.tuple #[.string (bs (shE b k)), .int .i64 ((a : Int) + ((tx b k).length : Int))]) ∧ w = w' := by
  induction n with
  | zero =>
    intro b k a r w hk hi hd
    rcases is_expr hi with ⟨rfl, hv⟩ | ⟨hv, ho, b1, k1, b2, k2, rfl, i1, i2⟩
    · obtain ⟨hlt, hb, hd1, hx⟩ := at_tx hd
      have HF := Lib.hid ((ops_op s[a]).2 (by rw [hb]; exact leaf_op hv))
      have HX := Lib.hid hx
      have hlt' : (a : Int) < s.size := by omega
      have hi1 : (a : Int) + 1 ≤ s.size := by omega
      have hi2 : ((a : Int) + 1).toNat = a + 1 := by omega
      clear hb hx hd hd1
      go_enter Try.func76, Try.ntmps76
      go_wp2_with (go_at_call 72; refine (libFind _ [43, 45, 42] rfl s[a] _ (by decide)).mono ?_; rintro e w' ⟨rfl, rfl⟩; rw [HF.out])
      exact bodyPost_ret (v := .tuple #[.string (s.extract a (a + 1)), .int .i64 ((a : Int) + 1)]) (by simp [results, Try.results76, go_sem]) rfl ⟨by rw [HX.out]; rfl, rfl⟩
    · simp [F.size] at hk
  | succ n ih =>
    intro b k a r w hk hi hd
    rcases is_expr hi with ⟨rfl, hv⟩ | ⟨hv, ho, b1, k1, b2, k2, rfl, i1, i2⟩
    · obtain ⟨hlt, hb, hd1, hx⟩ := at_tx hd
      have HF := Lib.hid ((ops_op s[a]).2 (by rw [hb]; exact leaf_op hv))
      have HX := Lib.hid hx
      have hlt' : (a : Int) < s.size := by omega
      have hi1 : (a : Int) + 1 ≤ s.size := by omega
      have hi2 : ((a : Int) + 1).toNat = a + 1 := by omega
      clear hb hx hd hd1
      go_enter Try.func76, Try.ntmps76
      go_wp2_with (go_at_call 72; refine (libFind _ [43, 45, 42] rfl s[a] _ (by decide)).mono ?_; rintro e w' ⟨rfl, rfl⟩; rw [HF.out])
      exact bodyPost_ret (v := .tuple #[.string (s.extract a (a + 1)), .int .i64 ((a : Int) + 1)]) (by simp [results, Try.results76, go_sem]) rfl ⟨by rw [HX.out]; rfl, rfl⟩
    · simp only [F.size] at hk
      have hfit := fits_tx hd
      obtain ⟨hlt, hb, hd1, hx⟩ := at_tx hd
      obtain ⟨e1, e2⟩ := at_two hd1
      have f1 := fits_tx e1
      have f2 := fits_tx e2
      have HF := Lib.hid ((ops_op s[a]).1 (by rw [hb]; exact ho))
      obtain ⟨n1, hn1⟩ : ∃ n1, (tx b1 k1).length = n1 := ⟨_, rfl⟩
      obtain ⟨n2, hn2⟩ : ∃ n2, (tx b2 k2).length = n2 := ⟨_, rfl⟩
      have IH1 := Lib.hid (fun w => ih b1 k1 (a + 1) _ w (by omega) i1 e1)
      have IH2 := Lib.hid (fun w => ih b2 k2 (a + 1 + (tx b1 k1).length) _ w (by omega) i2 e2)
      rw [hn1] at IH1 f1 IH2 f2
      rw [hn2] at IH2 f2
      rw [show ((a + 1 : Nat) : Int) = (a : Int) + 1 by omega] at IH1
      rw [show ((a + 1 + n1 : Nat) : Int) = (a : Int) + 1 + (n1 : Int) by omega] at IH2
      have z1 : (bs (shE b1 k1)).size ≤ 5000 := shE_size (n := 1000) (by omega)
      have z2 : (bs (shE b2 k2)).size ≤ 5000 := shE_size (n := 1000) (by omega)
      have z0 : (s.extract a (a + 1)).size = 1 := by rw [hx]; rfl
      have HX := Lib.hid hx
      have HS := Lib.hid (show (⟨#[40]⟩ ++ bs (shE b1 k1) ++ bs [b] ++ bs (shE b2 k2) ++ ⟨#[41]⟩ : ByteArray) = bs (shE b (.node b1 k1 (.node b2 k2 .nil))) by
        rw [shE_two]; apply ByteArray.ext; simp [bs])
      have HL := Lib.hid (show (((tx b (.node b1 k1 (.node b2 k2 .nil))).length : Nat) : Int) = 1 + (n1 : Int) + (n2 : Int) by rw [← hn1, ← hn2]; simp [tx, F.text]; omega)
      have hlt' : (a : Int) < s.size := by omega
      have hi1 : (a : Int) + 1 ≤ s.size := by omega
      have hi2 : ((a : Int) + 1).toNat = a + 1 := by omega
      clear hb hd hd1 e1 e2 ih hi hv ho hn1 hn2 hfit hx
      obtain ⟨iv, hiv⟩ : ∃ iv, Lib.indexByte [43, 45, 42] s[a] = iv := ⟨_, rfl⟩
      have h0 : (0 : Int) ≤ iv := by rw [← hiv]; exact HF.out
      have HIV := Lib.hid hiv
      clear hiv
      go_enter Try.func76, Try.ntmps76
      go_wp2_with (go_at_call 72; refine (libFind _ [43, 45, 42] rfl s[a] _ (by decide)).mono ?_; rintro e w' ⟨rfl, rfl⟩; rw [HIV.out])
      refine (IH1.out _).mono ?_
      rintro e w' ⟨rfl, rfl⟩
      go_wp2_with fail
      refine (IH2.out _).mono ?_
      rintro e w' ⟨rfl, rfl⟩
      go_wp2_with fail
      exact bodyPost_ret (v := .tuple #[.string (⟨#[40]⟩ ++ bs (shE b1 k1) ++ s.extract a (a + 1) ++ bs (shE b2 k2) ++ ⟨#[41]⟩), .int .i64 ((a : Int) + 1 + (n1 : Int) + (n2 : Int))]) (by simp [results, Try.results76, go_sem]) rfl
        ⟨by rw [HX.out, ← HS.out, HL.out, show (a : Int) + (1 + (n1 : Int) + (n2 : Int)) = (a : Int) + 1 + (n1 : Int) + (n2 : Int) by omega], rfl⟩
set_option maxHeartbeats 4000000 in
theorem specShowT (s : ByteArray) (hs : s.size ≤ 1000) (wide : Bool) (n : Nat) : ∀ (b : UInt8) (k : F) (a : Nat) (r : List UInt8) (w : World), k.size ≤ n → Is wide 1 b k → s.data.toList.drop a = tx b k ++ r →
    Calls Try.prog 77 #[.string s, .int .i64 (a : Int)] w fun e w' => e = .returned (.tuple #[.string (bs (shT b k)), .int .i64 ((a : Int) + ((tx b k).length : Int))]) ∧ w = w' := by
  induction n with
  | zero =>
    intro b k a r w hk hi hd
    rcases is_test hi with ⟨rfl, hb | hb⟩ | ⟨hb, b1, k1, b2, k2, rfl, i1, i2⟩ | ⟨hb, b1, k1, rfl, i1⟩ | ⟨hb, b1, k1, b2, k2, rfl, i1, i2⟩
    · obtain ⟨hlt, hb', hd1, hx⟩ := at_tx hd
      have HS := Lib.hid (show bs (shT b .nil) = ⟨#[116, 114, 117, 101]⟩ by rw [shT_t hb]; rfl)
      have g116 : ((s[a].toNat : Int) == 116) = true := by rw [hb']; simp; omega
      have g102 : ((s[a].toNat : Int) == 102) = false := by rw [hb']; simp; omega
      have g61 : ((s[a].toNat : Int) == 61) = false := by rw [hb']; simp; omega
      have g60 : ((s[a].toNat : Int) == 60) = false := by rw [hb']; simp; omega
      have g33 : ((s[a].toNat : Int) == 33) = false := by rw [hb']; simp; omega
      have hlt' : (a : Int) < s.size := by omega
      clear hb hb' hx hd hd1
      go_enter Try.func77, Try.ntmps77
      go_wp2_with fail
      exact bodyPost_ret (v := .tuple #[.string ⟨#[116, 114, 117, 101]⟩, .int .i64 ((a : Int) + 1)]) (by simp [results, Try.results77, go_sem]) rfl ⟨by rw [HS.out]; rfl, rfl⟩
    · obtain ⟨hlt, hb', hd1, hx⟩ := at_tx hd
      have HS := Lib.hid (show bs (shT b .nil) = ⟨#[102, 97, 108, 115, 101]⟩ by rw [shT_f hb]; rfl)
      have g116 : ((s[a].toNat : Int) == 116) = false := by rw [hb']; simp; omega
      have g102 : ((s[a].toNat : Int) == 102) = true := by rw [hb']; simp; omega
      have g61 : ((s[a].toNat : Int) == 61) = false := by rw [hb']; simp; omega
      have g60 : ((s[a].toNat : Int) == 60) = false := by rw [hb']; simp; omega
      have g33 : ((s[a].toNat : Int) == 33) = false := by rw [hb']; simp; omega
      have hlt' : (a : Int) < s.size := by omega
      clear hb hb' hx hd hd1
      go_enter Try.func77, Try.ntmps77
      go_wp2_with fail
      exact bodyPost_ret (v := .tuple #[.string ⟨#[102, 97, 108, 115, 101]⟩, .int .i64 ((a : Int) + 1)]) (by simp [results, Try.results77, go_sem]) rfl ⟨by rw [HS.out]; rfl, rfl⟩
    · simp [F.size] at hk
    · simp [F.size] at hk
    · simp [F.size] at hk
  | succ n ih =>
    intro b k a r w hk hi hd
    rcases is_test hi with ⟨rfl, hb | hb⟩ | ⟨hb, b1, k1, b2, k2, rfl, i1, i2⟩ | ⟨hb, b1, k1, rfl, i1⟩ | ⟨hb, b1, k1, b2, k2, rfl, i1, i2⟩
    · obtain ⟨hlt, hb', hd1, hx⟩ := at_tx hd
      have HS := Lib.hid (show bs (shT b .nil) = ⟨#[116, 114, 117, 101]⟩ by rw [shT_t hb]; rfl)
      have g116 : ((s[a].toNat : Int) == 116) = true := by rw [hb']; simp; omega
      have g102 : ((s[a].toNat : Int) == 102) = false := by rw [hb']; simp; omega
      have g61 : ((s[a].toNat : Int) == 61) = false := by rw [hb']; simp; omega
      have g60 : ((s[a].toNat : Int) == 60) = false := by rw [hb']; simp; omega
      have g33 : ((s[a].toNat : Int) == 33) = false := by rw [hb']; simp; omega
      have hlt' : (a : Int) < s.size := by omega
      clear hb hb' hx hd hd1
      go_enter Try.func77, Try.ntmps77
      go_wp2_with fail
      exact bodyPost_ret (v := .tuple #[.string ⟨#[116, 114, 117, 101]⟩, .int .i64 ((a : Int) + 1)]) (by simp [results, Try.results77, go_sem]) rfl ⟨by rw [HS.out]; rfl, rfl⟩
    · obtain ⟨hlt, hb', hd1, hx⟩ := at_tx hd
      have HS := Lib.hid (show bs (shT b .nil) = ⟨#[102, 97, 108, 115, 101]⟩ by rw [shT_f hb]; rfl)
      have g116 : ((s[a].toNat : Int) == 116) = false := by rw [hb']; simp; omega
      have g102 : ((s[a].toNat : Int) == 102) = true := by rw [hb']; simp; omega
      have g61 : ((s[a].toNat : Int) == 61) = false := by rw [hb']; simp; omega
      have g60 : ((s[a].toNat : Int) == 60) = false := by rw [hb']; simp; omega
      have g33 : ((s[a].toNat : Int) == 33) = false := by rw [hb']; simp; omega
      have hlt' : (a : Int) < s.size := by omega
      clear hb hb' hx hd hd1
      go_enter Try.func77, Try.ntmps77
      go_wp2_with fail
      exact bodyPost_ret (v := .tuple #[.string ⟨#[102, 97, 108, 115, 101]⟩, .int .i64 ((a : Int) + 1)]) (by simp [results, Try.results77, go_sem]) rfl ⟨by rw [HS.out]; rfl, rfl⟩
    · rcases hb with hb | hb
      · simp only [F.size] at hk
        have hfit := fits_tx hd
        obtain ⟨hlt, hb', hd1, hx⟩ := at_tx hd
        obtain ⟨e1, e2⟩ := at_two hd1
        have f1 := fits_tx e1
        have f2 := fits_tx e2
        obtain ⟨n1, hn1⟩ : ∃ n1, (tx b1 k1).length = n1 := ⟨_, rfl⟩
        obtain ⟨n2, hn2⟩ : ∃ n2, (tx b2 k2).length = n2 := ⟨_, rfl⟩
        have IH1 := Lib.hid (fun w => specShow s hs wide n b1 k1 (a + 1) _ w (by omega) i1 e1)
        have IH2 := Lib.hid (fun w => specShow s hs wide n b2 k2 (a + 1 + (tx b1 k1).length) _ w (by omega) i2 e2)
        rw [hn1] at IH1 f1 IH2 f2
        rw [hn2] at IH2 f2
        rw [show ((a + 1 : Nat) : Int) = (a : Int) + 1 by omega] at IH1
        rw [show ((a + 1 + n1 : Nat) : Int) = (a : Int) + 1 + (n1 : Int) by omega] at IH2
        have z1 : (bs (shE b1 k1)).size ≤ 5000 := shE_size (n := 1000) (by omega)
        have z2 : (bs (shE b2 k2)).size ≤ 5000 := shE_size (n := 1000) (by omega)
        have z0 : (s.extract a (a + 1)).size = 1 := by rw [hx]; rfl
        have HX := Lib.hid hx
        have HS := Lib.hid (show (bs (shE b1 k1) ++ bs [b] ++ bs (shE b2 k2) : ByteArray) = bs (shT b (.node b1 k1 (.node b2 k2 .nil))) by
          rw [shT_cmp (by omega)]; apply ByteArray.ext; simp [bs])
        have HL := Lib.hid (show (((tx b (.node b1 k1 (.node b2 k2 .nil))).length : Nat) : Int) = 1 + (n1 : Int) + (n2 : Int) by rw [← hn1, ← hn2]; simp [tx, F.text]; omega)
        have hlt' : (a : Int) < s.size := by omega
        have hi1 : (a : Int) + 1 ≤ s.size := by omega
        have hi2 : ((a : Int) + 1).toNat = a + 1 := by omega
        have g116 : ((s[a].toNat : Int) == 116) = false := by rw [hb']; simp; omega
        have g102 : ((s[a].toNat : Int) == 102) = false := by rw [hb']; simp; omega
        have g61 : ((s[a].toNat : Int) == 61) = true := by rw [hb']; simp; omega
        have g60 : ((s[a].toNat : Int) == 60) = false := by rw [hb']; simp; omega
        have g33 : ((s[a].toNat : Int) == 33) = false := by rw [hb']; simp; omega
        clear hb hb' hd hd1 e1 e2 ih hi hn1 hn2 hfit hx
        go_enter Try.func77, Try.ntmps77
        go_wp2_with fail
        refine (IH1.out _).mono ?_
        rintro e w' ⟨rfl, rfl⟩
        go_wp2_with fail
        refine (IH2.out _).mono ?_
        rintro e w' ⟨rfl, rfl⟩
        go_wp2_with fail
        exact bodyPost_ret (v := .tuple #[.string (bs (shE b1 k1) ++ s.extract a (a + 1) ++ bs (shE b2 k2)), .int .i64 ((a : Int) + 1 + (n1 : Int) + (n2 : Int))]) (by simp [results, Try.results77, go_sem]) rfl
          ⟨by rw [HX.out, ← HS.out, HL.out, show (a : Int) + (1 + (n1 : Int) + (n2 : Int)) = (a : Int) + 1 + (n1 : Int) + (n2 : Int) by omega], rfl⟩
      · simp only [F.size] at hk
        have hfit := fits_tx hd
        obtain ⟨hlt, hb', hd1, hx⟩ := at_tx hd
        obtain ⟨e1, e2⟩ := at_two hd1
        have f1 := fits_tx e1
        have f2 := fits_tx e2
        obtain ⟨n1, hn1⟩ : ∃ n1, (tx b1 k1).length = n1 := ⟨_, rfl⟩
        obtain ⟨n2, hn2⟩ : ∃ n2, (tx b2 k2).length = n2 := ⟨_, rfl⟩
        have IH1 := Lib.hid (fun w => specShow s hs wide n b1 k1 (a + 1) _ w (by omega) i1 e1)
        have IH2 := Lib.hid (fun w => specShow s hs wide n b2 k2 (a + 1 + (tx b1 k1).length) _ w (by omega) i2 e2)
        rw [hn1] at IH1 f1 IH2 f2
        rw [hn2] at IH2 f2
        rw [show ((a + 1 : Nat) : Int) = (a : Int) + 1 by omega] at IH1
        rw [show ((a + 1 + n1 : Nat) : Int) = (a : Int) + 1 + (n1 : Int) by omega] at IH2
        have z1 : (bs (shE b1 k1)).size ≤ 5000 := shE_size (n := 1000) (by omega)
        have z2 : (bs (shE b2 k2)).size ≤ 5000 := shE_size (n := 1000) (by omega)
        have z0 : (s.extract a (a + 1)).size = 1 := by rw [hx]; rfl
        have HX := Lib.hid hx
        have HS := Lib.hid (show (bs (shE b1 k1) ++ bs [b] ++ bs (shE b2 k2) : ByteArray) = bs (shT b (.node b1 k1 (.node b2 k2 .nil))) by
          rw [shT_cmp (by omega)]; apply ByteArray.ext; simp [bs])
        have HL := Lib.hid (show (((tx b (.node b1 k1 (.node b2 k2 .nil))).length : Nat) : Int) = 1 + (n1 : Int) + (n2 : Int) by rw [← hn1, ← hn2]; simp [tx, F.text]; omega)
        have hlt' : (a : Int) < s.size := by omega
        have hi1 : (a : Int) + 1 ≤ s.size := by omega
        have hi2 : ((a : Int) + 1).toNat = a + 1 := by omega
        have g116 : ((s[a].toNat : Int) == 116) = false := by rw [hb']; simp; omega
        have g102 : ((s[a].toNat : Int) == 102) = false := by rw [hb']; simp; omega
        have g61 : ((s[a].toNat : Int) == 61) = false := by rw [hb']; simp; omega
        have g60 : ((s[a].toNat : Int) == 60) = true := by rw [hb']; simp; omega
        have g33 : ((s[a].toNat : Int) == 33) = false := by rw [hb']; simp; omega
        clear hb hb' hd hd1 e1 e2 ih hi hn1 hn2 hfit hx
        go_enter Try.func77, Try.ntmps77
        go_wp2_with fail
        refine (IH1.out _).mono ?_
        rintro e w' ⟨rfl, rfl⟩
        go_wp2_with fail
        refine (IH2.out _).mono ?_
        rintro e w' ⟨rfl, rfl⟩
        go_wp2_with fail
        exact bodyPost_ret (v := .tuple #[.string (bs (shE b1 k1) ++ s.extract a (a + 1) ++ bs (shE b2 k2)), .int .i64 ((a : Int) + 1 + (n1 : Int) + (n2 : Int))]) (by simp [results, Try.results77, go_sem]) rfl
          ⟨by rw [HX.out, ← HS.out, HL.out, show (a : Int) + (1 + (n1 : Int) + (n2 : Int)) = (a : Int) + 1 + (n1 : Int) + (n2 : Int) by omega], rfl⟩
    · simp only [F.size] at hk
      have hfit := fits_tx hd
      obtain ⟨hlt, hb', hd1, hx⟩ := at_tx hd
      have e1 := at_one hd1
      have f1 := fits_tx e1
      obtain ⟨n1, hn1⟩ : ∃ n1, (tx b1 k1).length = n1 := ⟨_, rfl⟩
      have IH1 := Lib.hid (fun w => ih b1 k1 (a + 1) _ w (by omega) i1 e1)
      rw [hn1] at IH1 f1
      rw [show ((a + 1 : Nat) : Int) = (a : Int) + 1 by omega] at IH1
      have z1 : (bs (shT b1 k1)).size ≤ 5000 := shT_size (n := 1000) i1 (by omega)
      have HS := Lib.hid (show (⟨#[33, 40]⟩ ++ bs (shT b1 k1) ++ ⟨#[41]⟩ : ByteArray) = bs (shT b (.node b1 k1 .nil)) by
        rw [shT_not hb]; apply ByteArray.ext; simp [bs])
      have HL := Lib.hid (show (((tx b (.node b1 k1 .nil)).length : Nat) : Int) = 1 + (n1 : Int) by rw [← hn1]; simp [tx, F.text]; omega)
      have hlt' : (a : Int) < s.size := by omega
      have g116 : ((s[a].toNat : Int) == 116) = false := by rw [hb']; simp; omega
      have g102 : ((s[a].toNat : Int) == 102) = false := by rw [hb']; simp; omega
      have g61 : ((s[a].toNat : Int) == 61) = false := by rw [hb']; simp; omega
      have g60 : ((s[a].toNat : Int) == 60) = false := by rw [hb']; simp; omega
      have g33 : ((s[a].toNat : Int) == 33) = true := by rw [hb']; simp; omega
      clear hb hb' hd hd1 e1 ih hi hn1 hfit hx
      go_enter Try.func77, Try.ntmps77
      go_wp2_with fail
      refine (IH1.out _).mono ?_
      rintro e w' ⟨rfl, rfl⟩
      go_wp2_with fail
      exact bodyPost_ret (v := .tuple #[.string (⟨#[33, 40]⟩ ++ bs (shT b1 k1) ++ ⟨#[41]⟩), .int .i64 ((a : Int) + 1 + (n1 : Int))]) (by simp [results, Try.results77, go_sem]) rfl
        ⟨by rw [← HS.out, HL.out, show (a : Int) + (1 + (n1 : Int)) = (a : Int) + 1 + (n1 : Int) by omega], rfl⟩
    · simp only [F.size] at hk
      have hfit := fits_tx hd
      obtain ⟨hlt, hb', hd1, hx⟩ := at_tx hd
      obtain ⟨e1, e2⟩ := at_two hd1
      have f1 := fits_tx e1
      have f2 := fits_tx e2
      obtain ⟨n1, hn1⟩ : ∃ n1, (tx b1 k1).length = n1 := ⟨_, rfl⟩
      obtain ⟨n2, hn2⟩ : ∃ n2, (tx b2 k2).length = n2 := ⟨_, rfl⟩
      have IH1 := Lib.hid (fun w => ih b1 k1 (a + 1) _ w (by omega) i1 e1)
      have IH2 := Lib.hid (fun w => ih b2 k2 (a + 1 + (tx b1 k1).length) _ w (by omega) i2 e2)
      rw [hn1] at IH1 f1 IH2 f2
      rw [hn2] at IH2 f2
      rw [show ((a + 1 : Nat) : Int) = (a : Int) + 1 by omega] at IH1
      rw [show ((a + 1 + n1 : Nat) : Int) = (a : Int) + 1 + (n1 : Int) by omega] at IH2
      have z1 : (bs (shT b1 k1)).size ≤ 5000 := shT_size (n := 1000) i1 (by omega)
      have z2 : (bs (shT b2 k2)).size ≤ 5000 := shT_size (n := 1000) i2 (by omega)
      have z0 : (s.extract a (a + 1)).size = 1 := by rw [hx]; rfl
      have HX := Lib.hid hx
      have HS := Lib.hid (show (⟨#[40]⟩ ++ bs (shT b1 k1) ++ bs [b] ++ bs (shT b2 k2) ++ ⟨#[41]⟩ : ByteArray) = bs (shT b (.node b1 k1 (.node b2 k2 .nil))) by
        rw [shT_two (by omega)]; apply ByteArray.ext; simp [bs])
      have HL := Lib.hid (show (((tx b (.node b1 k1 (.node b2 k2 .nil))).length : Nat) : Int) = 1 + (n1 : Int) + (n2 : Int) by rw [← hn1, ← hn2]; simp [tx, F.text]; omega)
      have hlt' : (a : Int) < s.size := by omega
      have hi1 : (a : Int) + 1 ≤ s.size := by omega
      have hi2 : ((a : Int) + 1).toNat = a + 1 := by omega
      have g116 : ((s[a].toNat : Int) == 116) = false := by rw [hb']; simp; omega
      have g102 : ((s[a].toNat : Int) == 102) = false := by rw [hb']; simp; omega
      have g61 : ((s[a].toNat : Int) == 61) = false := by rw [hb']; simp; omega
      have g60 : ((s[a].toNat : Int) == 60) = false := by rw [hb']; simp; omega
      have g33 : ((s[a].toNat : Int) == 33) = false := by rw [hb']; simp; omega
      clear hb hb' hd hd1 e1 e2 ih hi hn1 hn2 hfit hx
      go_enter Try.func77, Try.ntmps77
      go_wp2_with fail
      refine (IH1.out _).mono ?_
      rintro e w' ⟨rfl, rfl⟩
      go_wp2_with fail
      refine (IH2.out _).mono ?_
      rintro e w' ⟨rfl, rfl⟩
      go_wp2_with fail
      exact bodyPost_ret (v := .tuple #[.string (⟨#[40]⟩ ++ bs (shT b1 k1) ++ s.extract a (a + 1) ++ bs (shT b2 k2) ++ ⟨#[41]⟩), .int .i64 ((a : Int) + 1 + (n1 : Int) + (n2 : Int))]) (by simp [results, Try.results77, go_sem]) rfl
        ⟨by rw [HX.out, ← HS.out, HL.out, show (a : Int) + (1 + (n1 : Int) + (n2 : Int)) = (a : Int) + 1 + (n1 : Int) + (n2 : Int) by omega], rfl⟩
/-- What the function answers. -/
def show0 (s : ByteArray) : ByteArray := if okS false 0 200 s then (match P false [0] s.data.toList with | some (.node b k _, _) => bs (shE b k) | _ => bs []) else bs []
theorem show0_is {b : UInt8} {k : F} (hi : Is false 0 b k) (hok : okS false 0 200 (bs (tx b k)) = true) : show0 (bs (tx b k)) = bs (shE b k) := by
  have := P_is hi []
  rw [List.append_nil] at this
  simp only [show0, hok, bs_list, this]; rfl
theorem show0_no {s : ByteArray} (hok : okS false 0 200 s = false) : show0 s = bs [] := by simp [show0, hok]
/-- What the function answers. -/
def show1 (s : ByteArray) : ByteArray := if okS false 1 200 s then (match P false [1] s.data.toList with | some (.node b k _, _) => bs (shT b k) | _ => bs []) else bs []
theorem show1_is {b : UInt8} {k : F} (hi : Is false 1 b k) (hok : okS false 1 200 (bs (tx b k)) = true) : show1 (bs (tx b k)) = bs (shT b k) := by
  have := P_is hi []
  rw [List.append_nil] at this
  simp only [show1, hok, bs_list, this]; rfl
theorem show1_no {s : ByteArray} (hok : okS false 1 200 s = false) : show1 s = bs [] := by simp [show1, hok]
end Go.Proofs.Ytialodkhckaklaa.Sw
