/- Contracts and law: the head of a statement. -/
import Derived.Test.YtfmmpahafliklaaSw
namespace Go.Proofs.Ytfmmpahafliklaa.Hd
open Go.RowKit Go.Deep Go.Proofs.Ytfmmpahafliklaa.Pl Go.Proofs.Ytfmmpahafliklaa.Bi Go.Proofs.Ytfmmpahafliklaa.Fi Go.Proofs.Ytfmmpahafliklaa.Ed Go.Proofs.Ytfmmpahafliklaa.Ps Go.Proofs.Ytfmmpahafliklaa.Sw
set_option linter.unusedVariables false

theorem cut_front (b : UInt8) (l m : List UInt8) : (bs (b :: (l ++ m))).extract 1 (1 + l.length) = bs l := by
  refine bs_of ?_
  simp [bs, ByteArray.data_extract]
theorem cut_all (b : UInt8) (l : List UInt8) : (bs (b :: l)).extract 1 (bs (b :: l)).size = bs l := by
  refine bs_of ?_
  simp [bs, ByteArray.data_extract, ByteArray.size]
theorem head_front {wide : Bool} {b : UInt8} {k : F} (h : Is wide 2 b k) : ∃ m, k.text = headT b k ++ m := by
  rcases is_prog h with ⟨rfl, hb⟩ | ⟨hb, b1, b2, k2, rfl, hv, i2⟩ | ⟨hb, b1, k1, b2, k2, rfl, i1, i2⟩ | ⟨hb, b0, k0, b1, k1, b2, k2, rfl, i0, i1, i2⟩ | ⟨hb, b0, k0, b1, k1, rfl, i0, i1⟩ | ⟨hb, b0, k0, rfl, i0⟩
  · exact ⟨[], by simp [headT, hb, F.text]⟩
  · exact ⟨[], by simp [headT, hb]⟩
  · exact ⟨_, by rw [show headT b (.node b1 k1 (.node b2 k2 .nil)) = [] by rcases hb with hb | hb <;> simp [headT, hb]]; rfl⟩
  · exact ⟨(F.node b1 k1 (.node b2 k2 .nil)).text, by simp [headT, hb, F.text, tx]⟩
  · exact ⟨(F.node b1 k1 .nil).text, by simp [headT, hb, F.text, tx]⟩
  · exact ⟨[], by simp [headT, hb, F.text, tx]⟩

set_option maxRecDepth 100000 in
set_option maxHeartbeats 2000000 in
theorem implHead (wide : Bool) (b : UInt8) (k : F) (p : Nat) (w : World) (hi : Is wide 2 b k) (hT : isT w p b k) :
    Calls Try.prog 59 #[.pointer (some ⟨p, 0, none⟩)] w fun e w' => e = .returned (.string (bs (headT b k))) ∧ w = w' := by
  have h0 := isT_op hT
  rcases is_prog hi with ⟨rfl, hb⟩ | ⟨hb, b1, b2, k2, rfl, hv, i2⟩ | ⟨hb, b1, k1, b2, k2, rfl, i1, i2⟩ | ⟨hb, b0, k0, b1, k1, b2, k2, rfl, i0, i1, i2⟩ | ⟨hb, b0, k0, b1, k1, rfl, i0, i1⟩ | ⟨hb, b0, k0, rfl, i0⟩
  · have HS := Lib.hid (show bs (headT b .nil) = ⟨#[]⟩ by simp [headT, hb]; rfl)
    have g97 : ((b.toNat : Int) == 97) = false := by simp; omega
    have g63 : ((b.toNat : Int) == 63) = false := by simp; omega
    have g64 : ((b.toNat : Int) == 64) = false := by simp; omega
    have g126 : ((b.toNat : Int) == 126) = false := by simp; omega
    clear hb hT hi
    go_enter Try.func59, Try.ntmps59
    go_wp2_with fail
    go_ret
    exact ⟨by rw [HS.out]; rfl, rfl⟩
  · have ht := isT_text hT
    have z := bs_size (tx b (.node b1 .nil (.node b2 k2 .nil)))
    have hl := tx_len b (.node b1 .nil (.node b2 k2 .nil))
    have z1 : (1 : Int) ≤ ((bs (tx b (.node b1 .nil (.node b2 k2 .nil)))).size : Int) := by omega
    have HS := Lib.hid (show bs (headT b (.node b1 .nil (.node b2 k2 .nil))) = (bs (tx b (.node b1 .nil (.node b2 k2 .nil)))).extract 1 (bs (tx b (.node b1 .nil (.node b2 k2 .nil)))).size by
      rw [tx, cut_all]; simp [headT, hb])
    have g97 : ((b.toNat : Int) == 97) = true := by simp; omega
    have g63 : ((b.toNat : Int) == 63) = false := by simp; omega
    have g64 : ((b.toNat : Int) == 64) = false := by simp; omega
    have g126 : ((b.toNat : Int) == 126) = false := by simp; omega
    clear hb hT hi z hl
    generalize bs (tx b (.node b1 .nil (.node b2 k2 .nil))) = T at ht z1 HS
    go_enter Try.func59, Try.ntmps59
    go_wp2_with fail
    go_ret
    exact ⟨by rw [HS.out]; rfl, rfl⟩
  · have HS := Lib.hid (show bs (headT b (.node b1 k1 (.node b2 k2 .nil))) = ⟨#[]⟩ by rcases hb with hb | hb <;> simp [headT, hb] <;> rfl)
    have g97 : ((b.toNat : Int) == 97) = false := by simp; omega
    have g63 : ((b.toNat : Int) == 63) = false := by simp; omega
    have g64 : ((b.toNat : Int) == 64) = false := by simp; omega
    have g126 : ((b.toNat : Int) == 126) = false := by simp; omega
    clear hb hT hi
    go_enter Try.func59, Try.ntmps59
    go_wp2_with fail
    go_ret
    exact ⟨by rw [HS.out]; rfl, rfl⟩
  · obtain ⟨gg, cap, p1, p2, p3, c1, d1, d2, d3, t1, t2, t3⟩ := isT_three hT
    have ht := isT_text t1
    have HS := Lib.hid (show bs (headT b (.node b0 k0 (.node b1 k1 (.node b2 k2 .nil)))) = bs (tx b0 k0) by simp [headT, hb])
    have g97 : ((b.toNat : Int) == 97) = false := by simp; omega
    have g63 : ((b.toNat : Int) == 63) = true := by simp; omega
    have g64 : ((b.toNat : Int) == 64) = false := by simp; omega
    have g126 : ((b.toNat : Int) == 126) = false := by simp; omega
    clear hb hT hi
    go_enter Try.func59, Try.ntmps59
    go_wp2_with fail
    go_ret
    exact ⟨by rw [HS.out]; rfl, rfl⟩
  · obtain ⟨gg, cap, p1, p2, c1, d1, d2, t1, t2⟩ := isT_two hT
    have ht := isT_text t1
    have HS := Lib.hid (show bs (headT b (.node b0 k0 (.node b1 k1 .nil))) = bs (tx b0 k0) by simp [headT, hb])
    have g97 : ((b.toNat : Int) == 97) = false := by simp; omega
    have g63 : ((b.toNat : Int) == 63) = false := by simp; omega
    have g64 : ((b.toNat : Int) == 64) = true := by simp; omega
    have g126 : ((b.toNat : Int) == 126) = false := by simp; omega
    clear hb hT hi
    go_enter Try.func59, Try.ntmps59
    go_wp2_with fail
    go_ret
    exact ⟨by rw [HS.out]; rfl, rfl⟩
  · obtain ⟨gg, cap, p1, c1, d1, t1⟩ := isT_one hT
    have ht := isT_text t1
    have HS := Lib.hid (show bs (headT b (.node b0 k0 .nil)) = bs (tx b0 k0) by simp [headT, hb])
    have g97 : ((b.toNat : Int) == 97) = false := by simp; omega
    have g63 : ((b.toNat : Int) == 63) = false := by simp; omega
    have g64 : ((b.toNat : Int) == 64) = false := by simp; omega
    have g126 : ((b.toNat : Int) == 126) = true := by simp; omega
    clear hb hT hi
    go_enter Try.func59, Try.ntmps59
    go_wp2_with fail
    go_ret
    exact ⟨by rw [HS.out]; rfl, rfl⟩
set_option maxRecDepth 100000 in
set_option maxHeartbeats 2000000 in
theorem specHead (wide : Bool) (b : UInt8) (k : F) (w : World) (hi : Is wide 2 b k) (hs : (tx b k).length ≤ 1000) :
    Calls Try.prog 58 #[.string (bs (tx b k)), .bool wide] w fun e w' => e = .returned (.int .i64 (1 + ((headT b k).length : Int))) ∧ Below w.heap.size w w' := by
  have z := bs_size (tx b k)
  have hl := tx_len b k
  have z1 : (0 : Int) < ((bs (tx b k)).size : Int) := by omega
  have z0 : 0 < (bs (tx b k)).size := by omega
  have h0 : (bs (tx b k))[0] = b := rfl
  rcases is_prog hi with ⟨rfl, hb⟩ | ⟨hb, b1, b2, k2, rfl, hv, i2⟩ | ⟨hb, b1, k1, b2, k2, rfl, i1, i2⟩ | ⟨hb, b0, k0, b1, k1, b2, k2, rfl, i0, i1, i2⟩ | ⟨hb, b0, k0, b1, k1, rfl, i0, i1⟩ | ⟨hb, b0, k0, rfl, i0⟩
  · have HL := Lib.hid (show (1 : Int) + ((headT b .nil).length : Int) = 1 by simp [headT, hb])
    generalize hT : bs (tx b .nil) = T at z z0 z1 h0 ⊢
    have g97 : ((T[0].toNat : Int) == 97) = false := by rw [h0]; simp; omega
    have g63 : ((T[0].toNat : Int) == 63) = false := by rw [h0]; simp; omega
    have g64 : ((T[0].toNat : Int) == 64) = false := by rw [h0]; simp; omega
    have g126 : ((T[0].toNat : Int) == 126) = false := by rw [h0]; simp; omega
    clear hb hi h0 hT z
    go_enter Try.func58, Try.ntmps58
    go_wp2_with fail
    go_ret
    exact ⟨by rw [HL.out]; rfl, Below.refl _ _⟩
  · have HL := Lib.hid (show (1 : Int) + ((headT b (.node b1 .nil (.node b2 k2 .nil))).length : Int) = ((bs (tx b (.node b1 .nil (.node b2 k2 .nil)))).size : Int) by rw [z, hl]; simp [headT, hb]; omega)
    generalize hT : bs (tx b (.node b1 .nil (.node b2 k2 .nil))) = T at z z0 z1 h0 HL ⊢
    have g97 : ((T[0].toNat : Int) == 97) = true := by rw [h0]; simp; omega
    have g63 : ((T[0].toNat : Int) == 63) = false := by rw [h0]; simp; omega
    have g64 : ((T[0].toNat : Int) == 64) = false := by rw [h0]; simp; omega
    have g126 : ((T[0].toNat : Int) == 126) = false := by rw [h0]; simp; omega
    clear hb hi h0 hT z
    go_enter Try.func58, Try.ntmps58
    go_wp2_with fail
    go_ret
    exact ⟨by rw [HL.out]; rfl, Below.refl _ _⟩
  · have HL := Lib.hid (show (1 : Int) + ((headT b (.node b1 k1 (.node b2 k2 .nil))).length : Int) = 1 by rcases hb with hb | hb <;> simp [headT, hb])
    generalize hT : bs (tx b (.node b1 k1 (.node b2 k2 .nil))) = T at z z0 z1 h0 ⊢
    have g97 : ((T[0].toNat : Int) == 97) = false := by rw [h0]; simp; omega
    have g63 : ((T[0].toNat : Int) == 63) = false := by rw [h0]; simp; omega
    have g64 : ((T[0].toNat : Int) == 64) = false := by rw [h0]; simp; omega
    have g126 : ((T[0].toNat : Int) == 126) = false := by rw [h0]; simp; omega
    clear hb hi h0 hT z
    go_enter Try.func58, Try.ntmps58
    go_wp2_with fail
    go_ret
    exact ⟨by rw [HL.out]; rfl, Below.refl _ _⟩
  · have HL := Lib.hid (show (1 : Int) + ((headT b (.node b0 k0 (.node b1 k1 (.node b2 k2 .nil)))).length : Int) = 1 + ((tx b0 k0).length : Int) by simp [headT, hb])
    have he := ends_is i0 (l := tx b (.node b0 k0 (.node b1 k1 (.node b2 k2 .nil)))) (r := (F.node b1 k1 (.node b2 k2 .nil)).text) (a := 1) (by simp [tx, F.text])
    have hc := specTestAny (bs (tx b (.node b0 k0 (.node b1 k1 (.node b2 k2 .nil))))) (by omega) wide 1
    rw [bs_list] at hc
    rw [show ((1 : Nat) : Int) = 1 by rfl] at he
    rw [he] at hc
    have HC := Lib.hid hc
    clear hc he
    generalize hT : bs (tx b (.node b0 k0 (.node b1 k1 (.node b2 k2 .nil)))) = T at z z0 z1 h0 HC ⊢
    have g97 : ((T[0].toNat : Int) == 97) = false := by rw [h0]; simp; omega
    have g63 : ((T[0].toNat : Int) == 63) = true := by rw [h0]; simp; omega
    have g64 : ((T[0].toNat : Int) == 64) = false := by rw [h0]; simp; omega
    have g126 : ((T[0].toNat : Int) == 126) = false := by rw [h0]; simp; omega
    clear hb hi h0 hT
    go_enter Try.func58, Try.ntmps58
    go_wp2_with fail
    refine (HC.out _ (by omega)).mono ?_
    rintro e w1 ⟨rfl, hb1⟩
    go_wp2_with fail
    go_ret
    exact ⟨by rw [HL.out]; rfl, hb1⟩
  · have HL := Lib.hid (show (1 : Int) + ((headT b (.node b0 k0 (.node b1 k1 .nil))).length : Int) = 1 + ((tx b0 k0).length : Int) by simp [headT, hb])
    have he := ends_is i0 (l := tx b (.node b0 k0 (.node b1 k1 .nil))) (r := (F.node b1 k1 .nil).text) (a := 1) (by simp [tx, F.text])
    have hc := specTestAny (bs (tx b (.node b0 k0 (.node b1 k1 .nil)))) (by omega) wide 1
    rw [bs_list] at hc
    rw [show ((1 : Nat) : Int) = 1 by rfl] at he
    rw [he] at hc
    have HC := Lib.hid hc
    clear hc he
    generalize hT : bs (tx b (.node b0 k0 (.node b1 k1 .nil))) = T at z z0 z1 h0 HC ⊢
    have g97 : ((T[0].toNat : Int) == 97) = false := by rw [h0]; simp; omega
    have g63 : ((T[0].toNat : Int) == 63) = false := by rw [h0]; simp; omega
    have g64 : ((T[0].toNat : Int) == 64) = true := by rw [h0]; simp; omega
    have g126 : ((T[0].toNat : Int) == 126) = false := by rw [h0]; simp; omega
    clear hb hi h0 hT
    go_enter Try.func58, Try.ntmps58
    go_wp2_with fail
    refine (HC.out _ (by omega)).mono ?_
    rintro e w1 ⟨rfl, hb1⟩
    go_wp2_with fail
    go_ret
    exact ⟨by rw [HL.out]; rfl, hb1⟩
  · have HL := Lib.hid (show (1 : Int) + ((headT b (.node b0 k0 .nil)).length : Int) = 1 + ((tx b0 k0).length : Int) by simp [headT, hb])
    have he := ends_is i0 (l := tx b (.node b0 k0 .nil)) (r := ([] : List UInt8)) (a := 1) (by simp [tx, F.text])
    have hc := specTestAny (bs (tx b (.node b0 k0 .nil))) (by omega) wide 1
    rw [bs_list] at hc
    rw [show ((1 : Nat) : Int) = 1 by rfl] at he
    rw [he] at hc
    have HC := Lib.hid hc
    clear hc he
    generalize hT : bs (tx b (.node b0 k0 .nil)) = T at z z0 z1 h0 HC ⊢
    have g97 : ((T[0].toNat : Int) == 97) = false := by rw [h0]; simp; omega
    have g63 : ((T[0].toNat : Int) == 63) = false := by rw [h0]; simp; omega
    have g64 : ((T[0].toNat : Int) == 64) = false := by rw [h0]; simp; omega
    have g126 : ((T[0].toNat : Int) == 126) = true := by rw [h0]; simp; omega
    clear hb hi h0 hT
    go_enter Try.func58, Try.ntmps58
    go_wp2_with fail
    refine (HC.out _ (by omega)).mono ?_
    rintro e w1 ⟨rfl, hb1⟩
    go_wp2_with fail
    go_ret
    exact ⟨by rw [HL.out]; rfl, hb1⟩
/-- What the function answers. -/
def headV (s : ByteArray) : ByteArray := if okS false 2 200 s then (match P false [2] s.data.toList with | some (.node b k _, _) => bs (headT b k) | _ => bs []) else bs []
theorem headV_is {b : UInt8} {k : F} (hi : Is false 2 b k) (hok : okS false 2 200 (bs (tx b k)) = true) : headV (bs (tx b k)) = bs (headT b k) := by
  have := P_is hi []
  rw [List.append_nil] at this
  simp only [headV, hok, bs_list, this]; rfl
theorem headV_no {s : ByteArray} (hok : okS false 2 200 s = false) : headV s = bs [] := by simp [headV, hok]
theorem implHeadOf (s : ByteArray) (w : World) (hs : s.size ≤ 1048576) : Calls Try.prog 35 #[.string s] w fun e w' => e = .returned (.string (headV s)) ∧ Below w.heap.size w w' := by
  have hp := Lib.hid (implParseProg s w hs)
  go_enter Try.func35, Try.ntmps35
  go_wp2_with fail
  refine (hp.out).mono ?_
  rintro e w1 (⟨h, rfl, hb⟩ | ⟨b, k, p, h, hi, rfl, rfl, hT, hb⟩)
  · have H := Lib.hid (headV_no h)
    clear h
    go_wp2_with fail
    go_ret
    exact ⟨by rw [H.out]; rfl, hb⟩
  · have H := Lib.hid (headV_is hi h)
    have HC := Lib.hid (implHead false b k p w1 hi hT)
    clear h hT hi
    go_wp2_with fail
    refine (HC.out).mono ?_
    rintro e w2 ⟨rfl, rfl⟩
    go_wp2_with fail
    go_ret
    exact ⟨by rw [H.out]; rfl, hb⟩
set_option maxRecDepth 100000 in
theorem specHeadOf (s : ByteArray) (w : World) (hs : s.size ≤ 1048576) : Calls Try.prog 34 #[.string s] w fun e w' => e = .returned (.string (headV s)) ∧ Below w.heap.size w w' := by
  have hv := Lib.hid (fun w => specProgramValid s w hs)
  cases h : okS false 2 200 s with
  | false =>
    have H := Lib.hid (headV_no h)
    rw [h] at hv
    clear h
    go_enter Try.func34, Try.ntmps34
    go_wp2_with fail
    refine (hv.out _).mono ?_
    rintro e w1 ⟨rfl, hb⟩
    go_wp2_with fail
    go_ret
    exact ⟨by rw [H.out]; rfl, hb⟩
  | true =>
    obtain ⟨hl, b, k, hi, rfl⟩ := okS_is h
    obtain ⟨m, hm⟩ := head_front hi
    have H := Lib.hid (show headV (bs (tx b k)) = (bs (tx b k)).extract 1 (1 + (headT b k).length) by rw [headV_is hi h, tx, hm, cut_front])
    have z := bs_size (tx b k)
    have ht := tx_len b k
    rw [hm, List.length_append] at ht
    have HC := Lib.hid (fun w => specHead false b k w hi (by omega))
    rw [h] at hv
    have i1 : (1 : Int) + ((headT b k).length : Int) ≤ ((bs (tx b k)).size : Int) := by omega
    have i2 : ((1 : Int) + ((headT b k).length : Int)).toNat = 1 + (headT b k).length := by omega
    have i3 : (1 : Int) ≤ 1 + ((headT b k).length : Int) := by omega
    clear h z ht hl
    go_enter Try.func34, Try.ntmps34
    go_wp2_with fail
    refine (hv.out _).mono ?_
    rintro e w1 ⟨rfl, hb⟩
    go_wp2_with fail
    refine (HC.out _).mono ?_
    rintro e w2 ⟨rfl, hb2⟩
    go_wp2_with fail
    go_ret
    exact ⟨by rw [H.out]; rfl, grew hb hb2⟩
theorem lawHeadOf (s : ByteArray) (w : World) (hs : s.size ≤ maxLen) : Calls Try.prog 12 #[.string s] w fun e w' => e = .returned (.bool true) ∧ Below w.heap.size w w' := by
  by_cases hbig : s.size ≤ 1048576
  · have h1 : (s.size : Int) ≤ 1048576 := by omega
    obtain ⟨r, hr⟩ : ∃ r, headV s = r := ⟨_, rfl⟩
    have HA := Lib.hid (fun w => specHeadOf s w hbig)
    have HB := Lib.hid (fun w => implHeadOf s w hbig)
    rw [hr] at HA HB
    clear hr
    go_enter Try.func12, Try.ntmps12
    go_wp2_with (first
        | (go_at_call 34; refine (HA.out _).mono ?_; rintro e w1 ⟨rfl, hb1⟩)
        | (go_at_call 35; refine (HB.out _).mono ?_; rintro e w2 ⟨rfl, hb2⟩))
    go_ret
    exact ⟨rfl, grew hb1 hb2⟩
  · have h1 : (1048576 : Int) < (s.size : Int) := by omega
    go_enter Try.func12, Try.ntmps12
    go_wp2_with fail
    go_ret
    exact ⟨rfl, Below.refl _ _⟩
end Go.Proofs.Ytfmmpahafliklaa.Hd
