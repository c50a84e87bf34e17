/- Contracts and laws: the usual form of programs: ShowProgram, ShowWide. -/
import Derived.Test.YtialodkhckaklaaHeads
import Derived.Deep.RegionWith
import Derived.Lib.QuietBelow
namespace Go.Proofs.Ytialodkhckaklaa.Sh
open Go.RowKit Go.Deep Go.Sort Go.Proofs.Ytialodkhckaklaa.Pl Go.Proofs.Ytialodkhckaklaa.Bi Go.Proofs.Ytialodkhckaklaa.Fi Go.Proofs.Ytialodkhckaklaa.Ed Go.Proofs.Ytialodkhckaklaa.Ps Go.Proofs.Ytialodkhckaklaa.Sw Go.Proofs.Ytialodkhckaklaa.Hd Go.Proofs.Ytialodkhckaklaa.Pp Go.Proofs.Ytialodkhckaklaa.Ea Go.Proofs.Ytialodkhckaklaa.Sz Go.Proofs.Ytialodkhckaklaa.Hs
set_option linter.unusedVariables false

theorem shP_len {wide : Bool} (n : Nat) : ∀ (b : UInt8) (k : F), k.size < n → Is wide 2 b k → (shP b k).length ≤ 20 * (tx b k).length := by
  induction n with
  | zero => intro b k h; omega
  | succ n ih =>
    intro b k hk hi
    have hl := tx_size b k
    rcases is_prog hi with ⟨rfl, hb⟩ | ⟨hb, b1, b2, k2, rfl, hv, i2⟩ | ⟨hb, b1, k1, b2, k2, rfl, i1, i2⟩ | ⟨hb, b0, k0, b1, k1, b2, k2, rfl, i0, i1, i2⟩ | ⟨hb, b0, k0, b1, k1, rfl, i0, i1⟩ | ⟨hb, b0, k0, rfl, i0⟩
    · rw [shP_s hb]; simp; omega
    · have h2 := shE_len b2 k2
      have z2 := tx_size b2 k2
      rw [shP_a hb]
      simp only [F.size, List.length_append, List.length_cons, List.length_nil] at hl ⊢
      omega
    · simp only [F.size] at hk hl
      have h1 := ih b1 k1 (by omega) i1
      have h2 := ih b2 k2 (by omega) i2
      have z1 := tx_size b1 k1
      have z2 := tx_size b2 k2
      rcases hb with hb | hb
      · rw [shP_seq hb]
        simp only [List.length_append, List.length_cons, List.length_nil]
        omega
      · rw [shP_or hb]
        simp only [List.length_append, List.length_cons, List.length_nil]
        omega
    · simp only [F.size] at hk hl
      have h0 := shT_len k0.size b0 k0 (Nat.le_refl _) i0
      have h1 := ih b1 k1 (by omega) i1
      have h2 := ih b2 k2 (by omega) i2
      have z0 := tx_size b0 k0
      have z1 := tx_size b1 k1
      have z2 := tx_size b2 k2
      rw [shP_if hb]
      simp only [List.length_append, List.length_cons, List.length_nil]
      omega
    · simp only [F.size] at hk hl
      have h0 := shT_len k0.size b0 k0 (Nat.le_refl _) i0
      have h1 := ih b1 k1 (by omega) i1
      have z0 := tx_size b0 k0
      have z1 := tx_size b1 k1
      rw [shP_while hb]
      simp only [List.length_append, List.length_cons, List.length_nil]
      omega
    · simp only [F.size] at hk hl
      have h0 := shT_len k0.size b0 k0 (Nat.le_refl _) i0
      have z0 := tx_size b0 k0
      rw [shP_assume hb]
      simp only [List.length_append, List.length_cons, List.length_nil]
      omega
theorem shP_size {wide : Bool} {b : UInt8} {k : F} {n : Nat} (hi : Is wide 2 b k) (h : k.size ≤ 999) : (bs (shP b k)).size ≤ 20000 := by
  have := shP_len (k.size + 1) b k (by omega) hi
  have := tx_size b k
  rw [bs_size]; omega
set_option maxRecDepth 100000 in
set_option maxHeartbeats 8000000 in
theorem implShowP (wide : Bool) (n : Nat) : ∀ (b : UInt8) (k : F) (p : Nat) (w : World), k.size < n → Is wide 2 b k → k.size ≤ 999 → isT w p b k →
    Calls Try.prog 58 #[.pointer (some ⟨p, 0, none⟩)] w fun e w' => e = .returned (.string (bs (shP b k))) ∧ ∃ m, w' = w.drewN m := by
  induction n with
  | zero => intro b k p w h; omega
  | succ n ih =>
    intro b k p w hk hi hs hT
    have h0 := isT_op hT
    rcases is_prog hi with ⟨rfl, hb⟩ | ⟨hb, b1, b2, k2, rfl, hv, i2⟩ | ⟨hb, b1, k1, b2, k2, rfl, i1, i2⟩ | ⟨hb, b0, k0, b1, k1, b2, k2, rfl, i0, i1, i2⟩ | ⟨hb, b0, k0, b1, k1, rfl, i0, i1⟩ | ⟨hb, b0, k0, rfl, i0⟩
    · have HS := Lib.hid (show (⟨#[115, 107, 105, 112]⟩ : ByteArray) = bs (shP b .nil) by rw [shP_s hb]; rfl)
      have g115 : ((b.toNat : Int) == 115) = true := by simp; omega
      have g97 : ((b.toNat : Int) == 97) = false := by simp; omega
      have g59 : ((b.toNat : Int) == 59) = false := by simp; omega
      have g63 : ((b.toNat : Int) == 63) = false := by simp; omega
      have g64 : ((b.toNat : Int) == 64) = false := by simp; omega
      have g47 : ((b.toNat : Int) == 47) = false := by simp; omega
      clear hb hT ih hi
      go_enter Try.func58, Try.ntmps58
      go_wp2_with fail
      go_ret
      exact ⟨by rw [← HS.out]; rfl, 0, rfl⟩
    · simp only [F.size] at hk hs
      obtain ⟨g, cap, p1, p2, c1, d1, d2, t1, t2⟩ := isT_two hT
      have ht := isT_text t1
      have IH2 := Lib.hid (fun m => implShowE wide k2.size b2 k2 p2 (w.drewN m) (Nat.le_refl _) i2 (by rw [tx_size]; omega) (drewT m t2))
      have z2 : (bs (shE b2 k2)).size ≤ 5000 := shE_size (n := 1000) (by rw [tx_size]; omega)
      have z1 : (bs (tx b1 .nil)).size = 1 := rfl
      have HS := Lib.hid (show (bs (tx b1 .nil) ++ ⟨#[58, 61]⟩ ++ bs (shE b2 k2) : ByteArray) = bs (shP b (.node b1 .nil (.node b2 k2 .nil))) by rw [shP_a hb]; apply ByteArray.ext; simp [bs, tx, F.text])
      have g115 : ((b.toNat : Int) == 115) = false := by simp; omega
      have g97 : ((b.toNat : Int) == 97) = true := by simp; omega
      have g59 : ((b.toNat : Int) == 59) = false := by simp; omega
      have g63 : ((b.toNat : Int) == 63) = false := by simp; omega
      have g64 : ((b.toNat : Int) == 64) = false := by simp; omega
      have g47 : ((b.toNat : Int) == 47) = false := by simp; omega
      clear hb hT ih hi t1 t2
      go_enter Try.func58, Try.ntmps58
      go_wp2_with fail
      go_quiet (first | (go_at_call_of 78 p2; exact Calls.quiet_of (IH2.out _)))
      go_wp2_with fail
      go_ret
      exact ⟨by rw [← HS.out]; rfl, _, rfl⟩
    · rcases hb with hb | hb
      · simp only [F.size] at hk hs
        obtain ⟨g, cap, p1, p2, c1, d1, d2, t1, t2⟩ := isT_two hT
        have IH1 := Lib.hid (fun m => ih b1 k1 p1 (w.drewN m) (by omega) i1 (by omega) (drewT m t1))
        have z1 : (bs (shP b1 k1)).size ≤ 20000 := shP_size (n := 1000) i1 (by omega)
        have IH2 := Lib.hid (fun m => ih b2 k2 p2 (w.drewN m) (by omega) i2 (by omega) (drewT m t2))
        have z2 : (bs (shP b2 k2)).size ≤ 20000 := shP_size (n := 1000) i2 (by omega)
        have HS := Lib.hid (show (bs (shP b1 k1) ++ ⟨#[59, 32]⟩ ++ bs (shP b2 k2) : ByteArray) = bs (shP b (.node b1 k1 (.node b2 k2 .nil))) by rw [shP_seq hb]; apply ByteArray.ext; simp [bs])
        have g115 : ((b.toNat : Int) == 115) = false := by simp; omega
        have g97 : ((b.toNat : Int) == 97) = false := by simp; omega
        have g59 : ((b.toNat : Int) == 59) = true := by simp; omega
        have g63 : ((b.toNat : Int) == 63) = false := by simp; omega
        have g64 : ((b.toNat : Int) == 64) = false := by simp; omega
        have g47 : ((b.toNat : Int) == 47) = false := by simp; omega
        clear hb hT ih hi t1 t2
        go_enter Try.func58, Try.ntmps58
        go_wp2_with fail
        go_quiet (first | (go_at_call_of 58 p1; exact Calls.quiet_of (IH1.out _)) | (go_at_call_of 58 p2; exact Calls.quiet_of (IH2.out _)))
        go_wp2_with fail
        go_ret
        exact ⟨by rw [← HS.out]; rfl, _, rfl⟩
      · simp only [F.size] at hk hs
        obtain ⟨g, cap, p1, p2, c1, d1, d2, t1, t2⟩ := isT_two hT
        have IH1 := Lib.hid (fun m => ih b1 k1 p1 (w.drewN m) (by omega) i1 (by omega) (drewT m t1))
        have z1 : (bs (shP b1 k1)).size ≤ 20000 := shP_size (n := 1000) i1 (by omega)
        have IH2 := Lib.hid (fun m => ih b2 k2 p2 (w.drewN m) (by omega) i2 (by omega) (drewT m t2))
        have z2 : (bs (shP b2 k2)).size ≤ 20000 := shP_size (n := 1000) i2 (by omega)
        have HS := Lib.hid (show (⟨#[101, 105, 116, 104, 101, 114, 32, 123]⟩ ++ bs (shP b1 k1) ++ ⟨#[125, 32, 111, 114, 32, 123]⟩ ++ bs (shP b2 k2) ++ ⟨#[125]⟩ : ByteArray) = bs (shP b (.node b1 k1 (.node b2 k2 .nil))) by rw [shP_or hb]; apply ByteArray.ext; simp [bs])
        have g115 : ((b.toNat : Int) == 115) = false := by simp; omega
        have g97 : ((b.toNat : Int) == 97) = false := by simp; omega
        have g59 : ((b.toNat : Int) == 59) = false := by simp; omega
        have g63 : ((b.toNat : Int) == 63) = false := by simp; omega
        have g64 : ((b.toNat : Int) == 64) = false := by simp; omega
        have g47 : ((b.toNat : Int) == 47) = true := by simp; omega
        clear hb hT ih hi t1 t2
        go_enter Try.func58, Try.ntmps58
        go_wp2_with fail
        go_quiet (first | (go_at_call_of 58 p1; exact Calls.quiet_of (IH1.out _)) | (go_at_call_of 58 p2; exact Calls.quiet_of (IH2.out _)))
        go_wp2_with fail
        go_ret
        exact ⟨by rw [← HS.out]; rfl, _, rfl⟩
    · simp only [F.size] at hk hs
      obtain ⟨g, cap, p0, p1, p2, c1, d1, d2, d3, t0, t1, t2⟩ := isT_three hT
      have IH0 := Lib.hid (fun m => implShowT wide k0.size b0 k0 p0 (w.drewN m) (Nat.le_refl _) i0 (by rw [tx_size]; omega) (drewT m t0))
      have z0 : (bs (shT b0 k0)).size ≤ 5000 := shT_size (n := 1000) i0 (by rw [tx_size]; omega)
      have IH1 := Lib.hid (fun m => ih b1 k1 p1 (w.drewN m) (by omega) i1 (by omega) (drewT m t1))
      have z1 : (bs (shP b1 k1)).size ≤ 20000 := shP_size (n := 1000) i1 (by omega)
      have IH2 := Lib.hid (fun m => ih b2 k2 p2 (w.drewN m) (by omega) i2 (by omega) (drewT m t2))
      have z2 : (bs (shP b2 k2)).size ≤ 20000 := shP_size (n := 1000) i2 (by omega)
      have HS := Lib.hid (show (⟨#[105, 102, 32]⟩ ++ bs (shT b0 k0) ++ ⟨#[32, 123]⟩ ++ bs (shP b1 k1) ++ ⟨#[125, 32, 101, 108, 115, 101, 32, 123]⟩ ++ bs (shP b2 k2) ++ ⟨#[125]⟩ : ByteArray) = bs (shP b (.node b0 k0 (.node b1 k1 (.node b2 k2 .nil)))) by rw [shP_if hb]; apply ByteArray.ext; simp [bs])
      have g115 : ((b.toNat : Int) == 115) = false := by simp; omega
      have g97 : ((b.toNat : Int) == 97) = false := by simp; omega
      have g59 : ((b.toNat : Int) == 59) = false := by simp; omega
      have g63 : ((b.toNat : Int) == 63) = true := by simp; omega
      have g64 : ((b.toNat : Int) == 64) = false := by simp; omega
      have g47 : ((b.toNat : Int) == 47) = false := by simp; omega
      clear hb hT ih hi t0 t1 t2
      go_enter Try.func58, Try.ntmps58
      go_wp2_with fail
      go_quiet (first | (go_at_call_of 79 p0; exact Calls.quiet_of (IH0.out _)) | (go_at_call_of 58 p1; exact Calls.quiet_of (IH1.out _)) | (go_at_call_of 58 p2; exact Calls.quiet_of (IH2.out _)))
      go_wp2_with fail
      go_ret
      exact ⟨by rw [← HS.out]; rfl, _, rfl⟩
    · simp only [F.size] at hk hs
      obtain ⟨g, cap, p0, p1, c1, d1, d2, t0, t1⟩ := isT_two hT
      have IH0 := Lib.hid (fun m => implShowT wide k0.size b0 k0 p0 (w.drewN m) (Nat.le_refl _) i0 (by rw [tx_size]; omega) (drewT m t0))
      have z0 : (bs (shT b0 k0)).size ≤ 5000 := shT_size (n := 1000) i0 (by rw [tx_size]; omega)
      have IH1 := Lib.hid (fun m => ih b1 k1 p1 (w.drewN m) (by omega) i1 (by omega) (drewT m t1))
      have z1 : (bs (shP b1 k1)).size ≤ 20000 := shP_size (n := 1000) i1 (by omega)
      have HS := Lib.hid (show (⟨#[119, 104, 105, 108, 101, 32]⟩ ++ bs (shT b0 k0) ++ ⟨#[32, 123]⟩ ++ bs (shP b1 k1) ++ ⟨#[125]⟩ : ByteArray) = bs (shP b (.node b0 k0 (.node b1 k1 .nil))) by rw [shP_while hb]; apply ByteArray.ext; simp [bs])
      have g115 : ((b.toNat : Int) == 115) = false := by simp; omega
      have g97 : ((b.toNat : Int) == 97) = false := by simp; omega
      have g59 : ((b.toNat : Int) == 59) = false := by simp; omega
      have g63 : ((b.toNat : Int) == 63) = false := by simp; omega
      have g64 : ((b.toNat : Int) == 64) = true := by simp; omega
      have g47 : ((b.toNat : Int) == 47) = false := by simp; omega
      clear hb hT ih hi t0 t1
      go_enter Try.func58, Try.ntmps58
      go_wp2_with fail
      go_quiet (first | (go_at_call_of 79 p0; exact Calls.quiet_of (IH0.out _)) | (go_at_call_of 58 p1; exact Calls.quiet_of (IH1.out _)))
      go_wp2_with fail
      go_ret
      exact ⟨by rw [← HS.out]; rfl, _, rfl⟩
    · simp only [F.size] at hk hs
      obtain ⟨g, cap, p0, c1, d1, t0⟩ := isT_one hT
      have IH0 := Lib.hid (implShowT wide k0.size b0 k0 p0 w (Nat.le_refl _) i0 (by rw [tx_size]; omega) t0)
      have z0 : (bs (shT b0 k0)).size ≤ 5000 := shT_size (n := 1000) i0 (by rw [tx_size]; omega)
      have HS := Lib.hid (show (⟨#[97, 115, 115, 117, 109, 101, 32]⟩ ++ bs (shT b0 k0) : ByteArray) = bs (shP b (.node b0 k0 .nil)) by rw [shP_assume hb]; apply ByteArray.ext; simp [bs])
      have g115 : ((b.toNat : Int) == 115) = false := by simp; omega
      have g97 : ((b.toNat : Int) == 97) = false := by simp; omega
      have g59 : ((b.toNat : Int) == 59) = false := by simp; omega
      have g63 : ((b.toNat : Int) == 63) = false := by simp; omega
      have g64 : ((b.toNat : Int) == 64) = false := by simp; omega
      have g47 : ((b.toNat : Int) == 47) = false := by simp; omega
      clear hb hT ih hi t0
      go_enter Try.func58, Try.ntmps58
      go_wp2_with fail
      refine (IH0.out).mono ?_
      rintro e w' ⟨rfl, m, rfl⟩
      go_wp2_with fail
      go_ret
      exact ⟨by rw [← HS.out]; rfl, m, rfl⟩
theorem cut_one' (l : List UInt8) (b : UInt8) : (bs (b :: l)).extract 0 1 = bs [b] := cut_one b l
set_option maxRecDepth 100000 in
set_option maxHeartbeats 8000000 in
theorem specShowP (wide : Bool) (n : Nat) : ∀ (b : UInt8) (k : F) (w : World), k.size < n → Is wide 2 b k → k.size ≤ 999 →
    Calls Try.prog 57 #[.string (bs (tx b k)), .bool wide] w fun e w' => e = .returned (.string (bs (shP b k))) ∧ Below w.heap.size w w' := by
  induction n with
  | zero => intro b k w h; omega
  | succ n ih =>
    intro b k w hk hi hs
    obtain ⟨r0, hr0⟩ := head_front hi
    have z := bs_size (tx b k)
    have zt := tx_size b k
    have z3 : (headT b k).length ≤ k.size := by
      have := congrArg List.length hr0
      rw [F.length_text, List.length_append] at this
      omega
    have HH := Lib.hid (fun w => specHead wide b k w hi (by omega))
    have HP := Lib.hid (fun w => specParts wide b k w hi (by omega))
    have i1 : (1 : Int) + ((headT b k).length : Int) ≤ ((bs (tx b k)).size : Int) := by omega
    have i2 : ((1 : Int) + ((headT b k).length : Int)).toNat = 1 + (headT b k).length := by omega
    have i3 : (1 : Int) ≤ 1 + ((headT b k).length : Int) := by omega
    have i4 : (0 : Int) < ((bs (tx b k)).size : Int) := by omega
    have i5 : 0 < (bs (tx b k)).size := by omega
    have h0 : (bs (tx b k))[0] = b := rfl
    have HC1 := Lib.hid (show (bs (tx b k)).extract 1 (1 + (headT b k).length) = bs (headT b k) by rw [tx, hr0, cut_front])
    clear hr0 r0
    rcases is_prog hi with ⟨rfl, hb⟩ | ⟨hb, b1, b2, k2, rfl, hv, i2'⟩ | ⟨hb, b1, k1, b2, k2, rfl, i1', i2'⟩ | ⟨hb, b0, k0, b1, k1, b2, k2, rfl, i0', i1', i2'⟩ | ⟨hb, b0, k0, b1, k1, rfl, i0', i1'⟩ | ⟨hb, b0, k0, rfl, i0'⟩
    · have HPA := Lib.hid (show (partsOf b .nil).map (fun x => bs (tx x.1 x.2)) = [] by simp [partsOf, partsL, hb, F.members])
      have HS := Lib.hid (show (⟨#[115, 107, 105, 112]⟩ : ByteArray) = bs (shP b .nil) by rw [shP_s hb]; rfl)
      generalize hTT : bs (tx b .nil) = T at z i1 i4 i5 h0 HH HP HC1 ⊢
      obtain ⟨hl, hhl⟩ : ∃ hl, (headT b .nil).length = hl := ⟨_, rfl⟩
      rw [hhl] at i1 i2 i3 HH HC1
      clear hhl z3
      have g115 : ((T[0].toNat : Int) == 115) = true := by rw [h0]; simp; omega
      have g97 : ((T[0].toNat : Int) == 97) = false := by rw [h0]; simp; omega
      have g59 : ((T[0].toNat : Int) == 59) = false := by rw [h0]; simp; omega
      have g63 : ((T[0].toNat : Int) == 63) = false := by rw [h0]; simp; omega
      have g64 : ((T[0].toNat : Int) == 64) = false := by rw [h0]; simp; omega
      have g47 : ((T[0].toNat : Int) == 47) = false := by rw [h0]; simp; omega
      clear hb hi ih h0 hTT z
      go_enter Try.func57, Try.ntmps57
      go_wp2_with fail
      refine (HH.out _).mono ?_
      rintro e w1 ⟨rfl, hb1⟩
      go_wp2_with fail
      refine (HP.out _).mono ?_
      rintro e w2 ⟨v, rfl, hv, hb2⟩
      have hb3 := grew hb1 hb2
      rw [HPA.out] at hv
      obtain ⟨g, cp, rfl, _⟩ := strs_form hv
      clear hv
      simp only [List.length_nil]
      go_wp2_with fail
      go_ret
      exact ⟨by rw [← HS.out]; rfl, hb3⟩
    · simp only [F.size] at hk hs
      have HPA := Lib.hid (show (partsOf b (.node b1 .nil (.node b2 k2 .nil))).map (fun x => bs (tx x.1 x.2)) = [] by simp [partsOf, partsL, hb, F.members])
      have HHT : headT b (.node b1 .nil (.node b2 k2 .nil)) = b1 :: tx b2 k2 := by simp [headT, hb, F.text, tx]
      have ze : (bs (b1 :: tx b2 k2)).size = k2.size + 2 := by rw [bs_size, List.length_cons, tx_size]
      have HX := Lib.hid (fun w => specShow (bs (b1 :: tx b2 k2)) (by omega) wide k2.size b2 k2 1 [] w (Nat.le_refl _) i2' (by rw [bs_list]; simp))
      have HE1 := Lib.hid (cut_one b1 (tx b2 k2))
      have z2 : (bs (shE b2 k2)).size ≤ 5000 := shE_size (n := 1000) (by rw [tx_size]; omega)
      have HS := Lib.hid (show (bs [b1] ++ ⟨#[58, 61]⟩ ++ bs (shE b2 k2) : ByteArray) = bs (shP b (.node b1 .nil (.node b2 k2 .nil))) by rw [shP_a hb]; apply ByteArray.ext; simp [bs])
      generalize hTT : bs (tx b (.node b1 .nil (.node b2 k2 .nil))) = T at z i1 i4 i5 h0 HH HP HC1 ⊢
      obtain ⟨hl, hhl⟩ : ∃ hl, (headT b (.node b1 .nil (.node b2 k2 .nil))).length = hl := ⟨_, rfl⟩
      rw [hhl] at i1 i2 i3 HH HC1
      rw [HHT] at HC1
      clear HHT
      clear hhl z3
      have g115 : ((T[0].toNat : Int) == 115) = false := by rw [h0]; simp; omega
      have g97 : ((T[0].toNat : Int) == 97) = true := by rw [h0]; simp; omega
      have g59 : ((T[0].toNat : Int) == 59) = false := by rw [h0]; simp; omega
      have g63 : ((T[0].toNat : Int) == 63) = false := by rw [h0]; simp; omega
      have g64 : ((T[0].toNat : Int) == 64) = false := by rw [h0]; simp; omega
      have g47 : ((T[0].toNat : Int) == 47) = false := by rw [h0]; simp; omega
      clear hb hi ih h0 hTT z
      go_enter Try.func57, Try.ntmps57
      go_wp2_with fail
      refine (HH.out _).mono ?_
      rintro e w1 ⟨rfl, hb1⟩
      go_wp2_with fail
      refine (HP.out _).mono ?_
      rintro e w2 ⟨v, rfl, hv, hb2⟩
      have hb3 := grew hb1 hb2
      rw [HPA.out] at hv
      obtain ⟨g, cp, rfl, _⟩ := strs_form hv
      clear hv
      simp only [List.length_nil]
      rw [HC1.out]
      go_wp2_with fail
      refine (HX.out _).mono ?_
      rintro e w3 ⟨rfl, rfl⟩
      go_wp2_with fail
      rw [HE1.out]
      go_wp2_with fail
      go_ret
      exact ⟨by rw [← HS.out]; rfl, hb3⟩
    · rcases hb with hb | hb
      · simp only [F.size] at hk hs
        have HPA := Lib.hid (show (partsOf b (.node b1 k1 (.node b2 k2 .nil))).map (fun x => bs (tx x.1 x.2)) = [bs (tx b1 k1), bs (tx b2 k2)] by simp [partsOf, partsL, hb, F.members])
        have IH1 := Lib.hid (fun w => ih b1 k1 w (by omega) i1' (by omega))
        have z1 : (bs (shP b1 k1)).size ≤ 20000 := shP_size (n := 1000) i1' (by omega)
        have IH2 := Lib.hid (fun w => ih b2 k2 w (by omega) i2' (by omega))
        have z2 : (bs (shP b2 k2)).size ≤ 20000 := shP_size (n := 1000) i2' (by omega)
        have HS := Lib.hid (show (bs (shP b1 k1) ++ ⟨#[59, 32]⟩ ++ bs (shP b2 k2) : ByteArray) = bs (shP b (.node b1 k1 (.node b2 k2 .nil))) by rw [shP_seq hb]; apply ByteArray.ext; simp [bs])
        generalize hTT : bs (tx b (.node b1 k1 (.node b2 k2 .nil))) = T at z i1 i4 i5 h0 HH HP HC1 ⊢
        obtain ⟨hl, hhl⟩ : ∃ hl, (headT b (.node b1 k1 (.node b2 k2 .nil))).length = hl := ⟨_, rfl⟩
        rw [hhl] at i1 i2 i3 HH HC1
        clear hhl z3
        have g115 : ((T[0].toNat : Int) == 115) = false := by rw [h0]; simp; omega
        have g97 : ((T[0].toNat : Int) == 97) = false := by rw [h0]; simp; omega
        have g59 : ((T[0].toNat : Int) == 59) = true := by rw [h0]; simp; omega
        have g63 : ((T[0].toNat : Int) == 63) = false := by rw [h0]; simp; omega
        have g64 : ((T[0].toNat : Int) == 64) = false := by rw [h0]; simp; omega
        have g47 : ((T[0].toNat : Int) == 47) = false := by rw [h0]; simp; omega
        clear hb hi ih h0 hTT z
        go_enter Try.func57, Try.ntmps57
        go_wp2_with fail
        refine (HH.out _).mono ?_
        rintro e w1 ⟨rfl, hb1⟩
        go_wp2_with fail
        refine (HP.out _).mono ?_
        rintro e w2 ⟨v, rfl, hv, hb2⟩
        have hb3 := grew hb1 hb2
        rw [HPA.out] at hv
        obtain ⟨g, cp, rfl, hgp, hgpl, hcp, hx, _⟩ := strs_form hv
        have c0 := fun d os => cell_regrown (hx 0 _ rfl) d os
        have c1 := fun d os => cell_regrown (hx 1 _ rfl) d os
        have e0 := hx 0 _ rfl
        have e1 := hx 1 _ rfl
        clear hx hv
        simp only [List.length_cons, List.length_nil] at hcp ⊢
        obtain ⟨T1, hT1⟩ : ∃ T1, bs (tx b1 k1) = T1 := ⟨_, rfl⟩
        rw [hT1] at IH1 c0 e0
        obtain ⟨T2, hT2⟩ : ∃ T2, bs (tx b2 k2) = T2 := ⟨_, rfl⟩
        rw [hT2] at IH2 c1 e1
        go_wp2_with fail
        refine wp_region_quiet_below (by kernel_rfl) (by kernel_rfl) ?_
        repeat (go_big_quiet_step (first | (go_at_call_of 57 T1; exact Calls.regrown_of (IH1.out _)) | (go_at_call_of 57 T2; exact Calls.regrown_of (IH2.out _))))
        refine wpQuiet_nil ?_
        intro _ hw'
        obtain ⟨⟨dq, osq⟩, hw''⟩ := hw'
        subst hw''
        go_wp2_with fail
        go_ret
        exact ⟨by rw [← HS.out]; rfl, grew hb3 (below_regrown _ _ _)⟩
      · simp only [F.size] at hk hs
        have HPA := Lib.hid (show (partsOf b (.node b1 k1 (.node b2 k2 .nil))).map (fun x => bs (tx x.1 x.2)) = [bs (tx b1 k1), bs (tx b2 k2)] by simp [partsOf, partsL, hb, F.members])
        have IH1 := Lib.hid (fun w => ih b1 k1 w (by omega) i1' (by omega))
        have z1 : (bs (shP b1 k1)).size ≤ 20000 := shP_size (n := 1000) i1' (by omega)
        have IH2 := Lib.hid (fun w => ih b2 k2 w (by omega) i2' (by omega))
        have z2 : (bs (shP b2 k2)).size ≤ 20000 := shP_size (n := 1000) i2' (by omega)
        have HS := Lib.hid (show (⟨#[101, 105, 116, 104, 101, 114, 32, 123]⟩ ++ bs (shP b1 k1) ++ ⟨#[125, 32, 111, 114, 32, 123]⟩ ++ bs (shP b2 k2) ++ ⟨#[125]⟩ : ByteArray) = bs (shP b (.node b1 k1 (.node b2 k2 .nil))) by rw [shP_or hb]; apply ByteArray.ext; simp [bs])
        generalize hTT : bs (tx b (.node b1 k1 (.node b2 k2 .nil))) = T at z i1 i4 i5 h0 HH HP HC1 ⊢
        obtain ⟨hl, hhl⟩ : ∃ hl, (headT b (.node b1 k1 (.node b2 k2 .nil))).length = hl := ⟨_, rfl⟩
        rw [hhl] at i1 i2 i3 HH HC1
        clear hhl z3
        have g115 : ((T[0].toNat : Int) == 115) = false := by rw [h0]; simp; omega
        have g97 : ((T[0].toNat : Int) == 97) = false := by rw [h0]; simp; omega
        have g59 : ((T[0].toNat : Int) == 59) = false := by rw [h0]; simp; omega
        have g63 : ((T[0].toNat : Int) == 63) = false := by rw [h0]; simp; omega
        have g64 : ((T[0].toNat : Int) == 64) = false := by rw [h0]; simp; omega
        have g47 : ((T[0].toNat : Int) == 47) = true := by rw [h0]; simp; omega
        clear hb hi ih h0 hTT z
        go_enter Try.func57, Try.ntmps57
        go_wp2_with fail
        refine (HH.out _).mono ?_
        rintro e w1 ⟨rfl, hb1⟩
        go_wp2_with fail
        refine (HP.out _).mono ?_
        rintro e w2 ⟨v, rfl, hv, hb2⟩
        have hb3 := grew hb1 hb2
        rw [HPA.out] at hv
        obtain ⟨g, cp, rfl, hgp, hgpl, hcp, hx, _⟩ := strs_form hv
        have c0 := fun d os => cell_regrown (hx 0 _ rfl) d os
        have c1 := fun d os => cell_regrown (hx 1 _ rfl) d os
        have e0 := hx 0 _ rfl
        have e1 := hx 1 _ rfl
        clear hx hv
        simp only [List.length_cons, List.length_nil] at hcp ⊢
        obtain ⟨T1, hT1⟩ : ∃ T1, bs (tx b1 k1) = T1 := ⟨_, rfl⟩
        rw [hT1] at IH1 c0 e0
        obtain ⟨T2, hT2⟩ : ∃ T2, bs (tx b2 k2) = T2 := ⟨_, rfl⟩
        rw [hT2] at IH2 c1 e1
        go_wp2_with fail
        refine wp_region_quiet_below (by kernel_rfl) (by kernel_rfl) ?_
        repeat (go_big_quiet_step (first | (go_at_call_of 57 T1; exact Calls.regrown_of (IH1.out _)) | (go_at_call_of 57 T2; exact Calls.regrown_of (IH2.out _))))
        refine wpQuiet_nil ?_
        intro _ hw'
        obtain ⟨⟨dq, osq⟩, hw''⟩ := hw'
        subst hw''
        go_wp2_with fail
        go_ret
        exact ⟨by rw [← HS.out]; rfl, grew hb3 (below_regrown _ _ _)⟩
    · simp only [F.size] at hk hs
      have HPA := Lib.hid (show (partsOf b (.node b0 k0 (.node b1 k1 (.node b2 k2 .nil)))).map (fun x => bs (tx x.1 x.2)) = [bs (tx b1 k1), bs (tx b2 k2)] by simp [partsOf, partsL, hb, F.members])
      have HHT : headT b (.node b0 k0 (.node b1 k1 (.node b2 k2 .nil))) = tx b0 k0 := by simp [headT, hb]
      have ze : (bs (tx b0 k0)).size = k0.size + 1 := by rw [bs_size, tx_size]
      have HX := Lib.hid (fun w => specShowT (bs (tx b0 k0)) (by omega) wide k0.size b0 k0 0 [] w (Nat.le_refl _) i0' (by rw [bs_list]; simp))
      have z0 : (bs (shT b0 k0)).size ≤ 5000 := shT_size (n := 1000) i0' (by rw [tx_size]; omega)
      have IH1 := Lib.hid (fun w => ih b1 k1 w (by omega) i1' (by omega))
      have z1 : (bs (shP b1 k1)).size ≤ 20000 := shP_size (n := 1000) i1' (by omega)
      have IH2 := Lib.hid (fun w => ih b2 k2 w (by omega) i2' (by omega))
      have z2 : (bs (shP b2 k2)).size ≤ 20000 := shP_size (n := 1000) i2' (by omega)
      have HS := Lib.hid (show (⟨#[105, 102, 32]⟩ ++ bs (shT b0 k0) ++ ⟨#[32, 123]⟩ ++ bs (shP b1 k1) ++ ⟨#[125, 32, 101, 108, 115, 101, 32, 123]⟩ ++ bs (shP b2 k2) ++ ⟨#[125]⟩ : ByteArray) = bs (shP b (.node b0 k0 (.node b1 k1 (.node b2 k2 .nil)))) by rw [shP_if hb]; apply ByteArray.ext; simp [bs])
      generalize hTT : bs (tx b (.node b0 k0 (.node b1 k1 (.node b2 k2 .nil)))) = T at z i1 i4 i5 h0 HH HP HC1 ⊢
      obtain ⟨hl, hhl⟩ : ∃ hl, (headT b (.node b0 k0 (.node b1 k1 (.node b2 k2 .nil)))).length = hl := ⟨_, rfl⟩
      rw [hhl] at i1 i2 i3 HH HC1
      rw [HHT] at HC1
      clear HHT
      clear hhl z3
      have g115 : ((T[0].toNat : Int) == 115) = false := by rw [h0]; simp; omega
      have g97 : ((T[0].toNat : Int) == 97) = false := by rw [h0]; simp; omega
      have g59 : ((T[0].toNat : Int) == 59) = false := by rw [h0]; simp; omega
      have g63 : ((T[0].toNat : Int) == 63) = true := by rw [h0]; simp; omega
      have g64 : ((T[0].toNat : Int) == 64) = false := by rw [h0]; simp; omega
      have g47 : ((T[0].toNat : Int) == 47) = false := by rw [h0]; simp; omega
      clear hb hi ih h0 hTT z
      go_enter Try.func57, Try.ntmps57
      go_wp2_with fail
      refine (HH.out _).mono ?_
      rintro e w1 ⟨rfl, hb1⟩
      go_wp2_with fail
      refine (HP.out _).mono ?_
      rintro e w2 ⟨v, rfl, hv, hb2⟩
      have hb3 := grew hb1 hb2
      rw [HPA.out] at hv
      obtain ⟨g, cp, rfl, hgp, hgpl, hcp, hx, _⟩ := strs_form hv
      have c0 := fun d os => cell_regrown (hx 0 _ rfl) d os
      have c1 := fun d os => cell_regrown (hx 1 _ rfl) d os
      have e0 := hx 0 _ rfl
      have e1 := hx 1 _ rfl
      clear hx hv
      simp only [List.length_cons, List.length_nil] at hcp ⊢
      obtain ⟨T1, hT1⟩ : ∃ T1, bs (tx b1 k1) = T1 := ⟨_, rfl⟩
      rw [hT1] at IH1 c0 e0
      obtain ⟨T2, hT2⟩ : ∃ T2, bs (tx b2 k2) = T2 := ⟨_, rfl⟩
      rw [hT2] at IH2 c1 e1
      rw [HC1.out]
      go_wp2_with fail
      refine (HX.out _).mono ?_
      rintro e w3 ⟨rfl, rfl⟩
      go_wp2_with fail
      refine wp_region_quiet_below (by kernel_rfl) (by kernel_rfl) ?_
      repeat (go_big_quiet_step (first | (go_at_call_of 57 T1; exact Calls.regrown_of (IH1.out _)) | (go_at_call_of 57 T2; exact Calls.regrown_of (IH2.out _))))
      refine wpQuiet_nil ?_
      intro _ hw'
      obtain ⟨⟨dq, osq⟩, hw''⟩ := hw'
      subst hw''
      go_wp2_with fail
      go_ret
      exact ⟨by rw [← HS.out]; rfl, grew hb3 (below_regrown _ _ _)⟩
    · simp only [F.size] at hk hs
      have HPA := Lib.hid (show (partsOf b (.node b0 k0 (.node b1 k1 .nil))).map (fun x => bs (tx x.1 x.2)) = [bs (tx b1 k1)] by simp [partsOf, partsL, hb, F.members])
      have HHT : headT b (.node b0 k0 (.node b1 k1 .nil)) = tx b0 k0 := by simp [headT, hb]
      have ze : (bs (tx b0 k0)).size = k0.size + 1 := by rw [bs_size, tx_size]
      have HX := Lib.hid (fun w => specShowT (bs (tx b0 k0)) (by omega) wide k0.size b0 k0 0 [] w (Nat.le_refl _) i0' (by rw [bs_list]; simp))
      have z0 : (bs (shT b0 k0)).size ≤ 5000 := shT_size (n := 1000) i0' (by rw [tx_size]; omega)
      have IH1 := Lib.hid (fun w => ih b1 k1 w (by omega) i1' (by omega))
      have z1 : (bs (shP b1 k1)).size ≤ 20000 := shP_size (n := 1000) i1' (by omega)
      have HS := Lib.hid (show (⟨#[119, 104, 105, 108, 101, 32]⟩ ++ bs (shT b0 k0) ++ ⟨#[32, 123]⟩ ++ bs (shP b1 k1) ++ ⟨#[125]⟩ : ByteArray) = bs (shP b (.node b0 k0 (.node b1 k1 .nil))) by rw [shP_while hb]; apply ByteArray.ext; simp [bs])
      generalize hTT : bs (tx b (.node b0 k0 (.node b1 k1 .nil))) = T at z i1 i4 i5 h0 HH HP HC1 ⊢
      obtain ⟨hl, hhl⟩ : ∃ hl, (headT b (.node b0 k0 (.node b1 k1 .nil))).length = hl := ⟨_, rfl⟩
      rw [hhl] at i1 i2 i3 HH HC1
      rw [HHT] at HC1
      clear HHT
      clear hhl z3
      have g115 : ((T[0].toNat : Int) == 115) = false := by rw [h0]; simp; omega
      have g97 : ((T[0].toNat : Int) == 97) = false := by rw [h0]; simp; omega
      have g59 : ((T[0].toNat : Int) == 59) = false := by rw [h0]; simp; omega
      have g63 : ((T[0].toNat : Int) == 63) = false := by rw [h0]; simp; omega
      have g64 : ((T[0].toNat : Int) == 64) = true := by rw [h0]; simp; omega
      have g47 : ((T[0].toNat : Int) == 47) = false := by rw [h0]; simp; omega
      clear hb hi ih h0 hTT z
      go_enter Try.func57, Try.ntmps57
      go_wp2_with fail
      refine (HH.out _).mono ?_
      rintro e w1 ⟨rfl, hb1⟩
      go_wp2_with fail
      refine (HP.out _).mono ?_
      rintro e w2 ⟨v, rfl, hv, hb2⟩
      have hb3 := grew hb1 hb2
      rw [HPA.out] at hv
      obtain ⟨g, cp, rfl, hgp, hgpl, hcp, hx, _⟩ := strs_form hv
      have c0 := fun d os => cell_regrown (hx 0 _ rfl) d os
      have e0 := hx 0 _ rfl
      clear hx hv
      simp only [List.length_cons, List.length_nil] at hcp ⊢
      obtain ⟨T1, hT1⟩ : ∃ T1, bs (tx b1 k1) = T1 := ⟨_, rfl⟩
      rw [hT1] at IH1 c0 e0
      rw [HC1.out]
      go_wp2_with fail
      refine (HX.out _).mono ?_
      rintro e w3 ⟨rfl, rfl⟩
      go_wp2_with fail
      refine (IH1.out _).mono ?_
      rintro e w4 ⟨rfl, hb4⟩
      go_wp2_with fail
      go_ret
      exact ⟨by rw [← HS.out]; rfl, grew hb3 hb4⟩
    · simp only [F.size] at hk hs
      have HPA := Lib.hid (show (partsOf b (.node b0 k0 .nil)).map (fun x => bs (tx x.1 x.2)) = [] by simp [partsOf, partsL, hb, F.members])
      have HHT : headT b (.node b0 k0 .nil) = tx b0 k0 := by simp [headT, hb]
      have ze : (bs (tx b0 k0)).size = k0.size + 1 := by rw [bs_size, tx_size]
      have HX := Lib.hid (fun w => specShowT (bs (tx b0 k0)) (by omega) wide k0.size b0 k0 0 [] w (Nat.le_refl _) i0' (by rw [bs_list]; simp))
      have z0 : (bs (shT b0 k0)).size ≤ 5000 := shT_size (n := 1000) i0' (by rw [tx_size]; omega)
      have HS := Lib.hid (show (⟨#[97, 115, 115, 117, 109, 101, 32]⟩ ++ bs (shT b0 k0) : ByteArray) = bs (shP b (.node b0 k0 .nil)) by rw [shP_assume hb]; apply ByteArray.ext; simp [bs])
      generalize hTT : bs (tx b (.node b0 k0 .nil)) = T at z i1 i4 i5 h0 HH HP HC1 ⊢
      obtain ⟨hl, hhl⟩ : ∃ hl, (headT b (.node b0 k0 .nil)).length = hl := ⟨_, rfl⟩
      rw [hhl] at i1 i2 i3 HH HC1
      rw [HHT] at HC1
      clear HHT
      clear hhl z3
      have g115 : ((T[0].toNat : Int) == 115) = false := by rw [h0]; simp; omega
      have g97 : ((T[0].toNat : Int) == 97) = false := by rw [h0]; simp; omega
      have g59 : ((T[0].toNat : Int) == 59) = false := by rw [h0]; simp; omega
      have g63 : ((T[0].toNat : Int) == 63) = false := by rw [h0]; simp; omega
      have g64 : ((T[0].toNat : Int) == 64) = false := by rw [h0]; simp; omega
      have g47 : ((T[0].toNat : Int) == 47) = false := by rw [h0]; simp; omega
      clear hb hi ih h0 hTT z
      go_enter Try.func57, Try.ntmps57
      go_wp2_with fail
      refine (HH.out _).mono ?_
      rintro e w1 ⟨rfl, hb1⟩
      go_wp2_with fail
      refine (HP.out _).mono ?_
      rintro e w2 ⟨v, rfl, hv, hb2⟩
      have hb3 := grew hb1 hb2
      rw [HPA.out] at hv
      obtain ⟨g, cp, rfl, _⟩ := strs_form hv
      clear hv
      simp only [List.length_nil]
      rw [HC1.out]
      go_wp2_with fail
      refine (HX.out _).mono ?_
      rintro e w3 ⟨rfl, rfl⟩
      go_wp2_with fail
      go_ret
      exact ⟨by rw [← HS.out]; rfl, hb3⟩
/-- What the function answers. -/
def vShow (s : ByteArray) : ByteArray := progV false 200 (fun b k => bs (shP b k)) (bs []) s
theorem implShowProgram (s : ByteArray) (w : World) (hs : s.size ≤ 1048576) : Calls Try.prog 31 #[.string s] w fun e w' => e = .returned (.string (vShow s)) ∧ Below w.heap.size w w' := by
  have hp := Lib.hid (implParseProg s w hs)
  go_enter Try.func31, Try.ntmps31
  go_wp2_with fail
  refine (hp.out).mono ?_
  rintro e w1 (⟨h, rfl, hb⟩ | ⟨b, k, p, h, hi, rfl, rfl, hT, hb⟩)
  · have H := Lib.hid (show vShow s = bs [] from progV_no _ _ h)
    clear h
    go_wp2_with fail
    go_ret
    exact ⟨by rw [H.out]; rfl, hb⟩
  · have H := Lib.hid (show vShow (bs (tx b k)) = _ from progV_is _ _ hi h)
    have hl := (okS_is h).1
    rw [bs_size, tx_size] at hl
    have HC := Lib.hid (implShowP false (k.size + 1) b k p w1 (by omega) hi (by omega) hT)
    obtain ⟨r, hr⟩ : ∃ r, bs (shP b k) = r := ⟨_, rfl⟩
    rw [hr] at HC H
    clear h hT hi hl hr
    go_wp2_with fail
    refine (HC.out).mono ?_
    rintro e w2 ⟨rfl, m, rfl⟩
    go_wp2_with fail
    go_ret
    exact ⟨by rw [H.out]; rfl, below_drewN hb m⟩
theorem specShowProgram (s : ByteArray) (w : World) (hs : s.size ≤ 1048576) : Calls Try.prog 30 #[.string s] w fun e w' => e = .returned (.string (vShow s)) ∧ Below w.heap.size w w' := by
  have hv := Lib.hid (fun w => specProgramValid s w hs)
  cases h : okS false 2 200 s with
  | false =>
    have H := Lib.hid (show vShow s = bs [] from progV_no _ _ h)
    rw [h] at hv
    clear h
    go_enter Try.func30, Try.ntmps30
    go_wp2_with fail
    refine (hv.out _).mono ?_
    rintro e w1 ⟨rfl, hb⟩
    go_wp2_with fail
    go_ret
    exact ⟨by rw [H.out]; rfl, hb⟩
  | true =>
    obtain ⟨hl, b, k, hi, rfl⟩ := okS_is h
    have H := Lib.hid (show vShow (bs (tx b k)) = _ from progV_is _ _ hi h)
    rw [h] at hv
    rw [bs_size, tx_size] at hl
    have HC := Lib.hid (fun w => specShowP false (k.size + 1) b k w (by omega) hi (by omega))
    obtain ⟨r, hr⟩ : ∃ r, bs (shP b k) = r := ⟨_, rfl⟩
    rw [hr] at HC H
    clear h hl hi hr
    go_enter Try.func30, Try.ntmps30
    go_wp2_with fail
    refine (hv.out _).mono ?_
    rintro e w1 ⟨rfl, hb⟩
    go_wp2_with fail
    refine (HC.out _).mono ?_
    rintro e w2 ⟨rfl, hb2⟩
    go_wp2_with fail
    go_ret
    exact ⟨by rw [H.out]; rfl, grew hb hb2⟩
/-- What the function answers. -/
def vWide (s : ByteArray) : ByteArray := progV true 1000 (fun b k => bs (shP b k)) (bs []) s
theorem implShowWide (s : ByteArray) (w : World) (hs : s.size ≤ 1048576) : Calls Try.prog 33 #[.string s] w fun e w' => e = .returned (.string (vWide s)) ∧ Below w.heap.size w w' := by
  have hp := Lib.hid (implParseWideProg s w hs)
  go_enter Try.func33, Try.ntmps33
  go_wp2_with fail
  refine (hp.out).mono ?_
  rintro e w1 (⟨h, rfl, hb⟩ | ⟨b, k, p, h, hi, rfl, rfl, hT, hb⟩)
  · have H := Lib.hid (show vWide s = bs [] from progV_no _ _ h)
    clear h
    go_wp2_with fail
    go_ret
    exact ⟨by rw [H.out]; rfl, hb⟩
  · have H := Lib.hid (show vWide (bs (tx b k)) = _ from progV_is _ _ hi h)
    have hl := (okS_is h).1
    rw [bs_size, tx_size] at hl
    have HC := Lib.hid (implShowP true (k.size + 1) b k p w1 (by omega) hi (by omega) hT)
    obtain ⟨r, hr⟩ : ∃ r, bs (shP b k) = r := ⟨_, rfl⟩
    rw [hr] at HC H
    clear h hT hi hl hr
    go_wp2_with fail
    refine (HC.out).mono ?_
    rintro e w2 ⟨rfl, m, rfl⟩
    go_wp2_with fail
    go_ret
    exact ⟨by rw [H.out]; rfl, below_drewN hb m⟩
theorem specShowWide (s : ByteArray) (w : World) (hs : s.size ≤ 1048576) : Calls Try.prog 32 #[.string s] w fun e w' => e = .returned (.string (vWide s)) ∧ Below w.heap.size w w' := by
  have hv := Lib.hid (fun w => specWideProgramValid s w hs)
  cases h : okS true 2 1000 s with
  | false =>
    have H := Lib.hid (show vWide s = bs [] from progV_no _ _ h)
    rw [h] at hv
    clear h
    go_enter Try.func32, Try.ntmps32
    go_wp2_with fail
    refine (hv.out _).mono ?_
    rintro e w1 ⟨rfl, hb⟩
    go_wp2_with fail
    go_ret
    exact ⟨by rw [H.out]; rfl, hb⟩
  | true =>
    obtain ⟨hl, b, k, hi, rfl⟩ := okS_is h
    have H := Lib.hid (show vWide (bs (tx b k)) = _ from progV_is _ _ hi h)
    rw [h] at hv
    rw [bs_size, tx_size] at hl
    have HC := Lib.hid (fun w => specShowP true (k.size + 1) b k w (by omega) hi (by omega))
    obtain ⟨r, hr⟩ : ∃ r, bs (shP b k) = r := ⟨_, rfl⟩
    rw [hr] at HC H
    clear h hl hi hr
    go_enter Try.func32, Try.ntmps32
    go_wp2_with fail
    refine (hv.out _).mono ?_
    rintro e w1 ⟨rfl, hb⟩
    go_wp2_with fail
    refine (HC.out _).mono ?_
    rintro e w2 ⟨rfl, hb2⟩
    go_wp2_with fail
    go_ret
    exact ⟨by rw [H.out]; rfl, grew hb hb2⟩
theorem lawShowProgram (s : ByteArray) (w : World) (hs : s.size ≤ maxLen) : Calls Try.prog 9 #[.string s] w fun e w' => e = .returned (.bool true) ∧ Below w.heap.size w w' := by
  by_cases hbig : s.size ≤ 1048576
  · have h1 : (s.size : Int) ≤ 1048576 := by omega
    obtain ⟨r, hr⟩ : ∃ r, vShow s = r := ⟨_, rfl⟩
    have HA := Lib.hid (fun w => specShowProgram s w hbig)
    have HB := Lib.hid (fun w => implShowProgram s w hbig)
    rw [hr] at HA HB
    clear hr
    go_enter Try.func9, Try.ntmps9
    go_wp2_with (first
        | (go_at_call 30; refine (HA.out _).mono ?_; rintro e w1 ⟨rfl, hb1⟩)
        | (go_at_call 31; refine (HB.out _).mono ?_; rintro e w2 ⟨rfl, hb2⟩))
    go_ret
    exact ⟨rfl, grew hb1 hb2⟩
  · have h1 : (1048576 : Int) < (s.size : Int) := by omega
    go_enter Try.func9, Try.ntmps9
    go_wp2_with fail
    go_ret
    exact ⟨rfl, Below.refl _ _⟩
theorem lawShowWide (s : ByteArray) (w : World) (hs : s.size ≤ maxLen) : Calls Try.prog 10 #[.string s] w fun e w' => e = .returned (.bool true) ∧ Below w.heap.size w w' := by
  by_cases hbig : s.size ≤ 1048576
  · have h1 : (s.size : Int) ≤ 1048576 := by omega
    obtain ⟨r, hr⟩ : ∃ r, vWide s = r := ⟨_, rfl⟩
    have HA := Lib.hid (fun w => specShowWide s w hbig)
    have HB := Lib.hid (fun w => implShowWide s w hbig)
    rw [hr] at HA HB
    clear hr
    go_enter Try.func10, Try.ntmps10
    go_wp2_with (first
        | (go_at_call 32; refine (HA.out _).mono ?_; rintro e w1 ⟨rfl, hb1⟩)
        | (go_at_call 33; refine (HB.out _).mono ?_; rintro e w2 ⟨rfl, hb2⟩))
    go_ret
    exact ⟨rfl, grew hb1 hb2⟩
  · have h1 : (1048576 : Int) < (s.size : Int) := by omega
    go_enter Try.func10, Try.ntmps10
    go_wp2_with fail
    go_ret
    exact ⟨rfl, Below.refl _ _⟩
end Go.Proofs.Ytialodkhckaklaa.Sh
