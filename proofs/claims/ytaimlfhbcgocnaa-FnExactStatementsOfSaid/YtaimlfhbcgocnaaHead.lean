/- Contracts and law: the head of a statement. -/
import Derived.Test.YtaimlfhbcgocnaaSw
namespace Go.Proofs.Ytaimlfhbcgocnaa.Hd
open Go.RowKit Go.Deep Go.Proofs.Ytaimlfhbcgocnaa.Pl Go.Proofs.Ytaimlfhbcgocnaa.Bi Go.Proofs.Ytaimlfhbcgocnaa.Fi Go.Proofs.Ytaimlfhbcgocnaa.Ed Go.Proofs.Ytaimlfhbcgocnaa.Ps Go.Proofs.Ytaimlfhbcgocnaa.Sw
set_option linter.unusedVariables false

theorem cut_front (b : UInt8) (l m : List UInt8) : (bs (b :: (l ++ m))).extract 1 (1 + l.length) = bs l := by
  refine bs_of ?_
  simp [bs, ByteArray.data_extract]
theorem cut_all (b : UInt8) (l : List UInt8) : (bs (b :: l)).extract 1 (bs (b :: l)).size = bs l := by
  refine bs_of ?_
  simp [bs, ByteArray.data_extract, ByteArray.size]
theorem head_front {wide : Bool} {b : UInt8} {k : F} (h : Is wide 2 b k) : ∃ m, k.text = headT b k ++ m := by
  rcases is_prog h with ⟨rfl, hb⟩ | ⟨hb, b1, b2, k2, rfl, hv, i2⟩ | ⟨hb, b1, k1, b2, k2, rfl, i1, i2⟩ | ⟨hb, b0, k0, b1, k1, b2, k2, rfl, i0, i1, i2⟩ | ⟨hb, b0, k0, b1, k1, rfl, i0, i1⟩ | ⟨hb, b0, k0, rfl, i0⟩
  · exact ⟨[], by simp [headT, hb, F.text]⟩
  · exact ⟨[], by simp [headT, hb]⟩
  · exact ⟨_, by rw [show headT b (.node b1 k1 (.node b2 k2 .nil)) = [] by rcases hb with hb | hb <;> simp [headT, hb]]; rfl⟩
  · exact ⟨(F.node b1 k1 (.node b2 k2 .nil)).text, by simp [headT, hb, F.text, tx]⟩
  · exact ⟨(F.node b1 k1 .nil).text, by simp [headT, hb, F.text, tx]⟩
  · exact ⟨[], by simp [headT, hb, F.text, tx]⟩

set_option maxRecDepth 100000 in
set_option maxHeartbeats 2000000 in
theorem specHead (wide : Bool) (b : UInt8) (k : F) (w : World) (hi : Is wide 2 b k) (hs : (tx b k).length ≤ 1000) :
    Calls Try.prog 43 #[.string (bs (tx b k)), .bool wide] w fun e w' => e = .returned (.int .i64 (1 + ((headT b k).length : Int))) ∧ Below w.heap.size w w' := by
  have z := bs_size (tx b k)
  have hl := tx_len b k
  have z1 : (0 : Int) < ((bs (tx b k)).size : Int) := by omega
  have z0 : 0 < (bs (tx b k)).size := by omega
  have h0 : (bs (tx b k))[0] = b := rfl
  rcases is_prog hi with ⟨rfl, hb⟩ | ⟨hb, b1, b2, k2, rfl, hv, i2⟩ | ⟨hb, b1, k1, b2, k2, rfl, i1, i2⟩ | ⟨hb, b0, k0, b1, k1, b2, k2, rfl, i0, i1, i2⟩ | ⟨hb, b0, k0, b1, k1, rfl, i0, i1⟩ | ⟨hb, b0, k0, rfl, i0⟩
  · have HL := Lib.hid (show (1 : Int) + ((headT b .nil).length : Int) = 1 by simp [headT, hb])
    generalize hT : bs (tx b .nil) = T at z z0 z1 h0 ⊢
    have g97 : ((T[0].toNat : Int) == 97) = false := by rw [h0]; simp; omega
    have g63 : ((T[0].toNat : Int) == 63) = false := by rw [h0]; simp; omega
    have g64 : ((T[0].toNat : Int) == 64) = false := by rw [h0]; simp; omega
    have g126 : ((T[0].toNat : Int) == 126) = false := by rw [h0]; simp; omega
    clear hb hi h0 hT z
    go_enter Try.func43, Try.ntmps43
    go_wp2_with fail
    go_ret
    exact ⟨by rw [HL.out]; rfl, Below.refl _ _⟩
  · have HL := Lib.hid (show (1 : Int) + ((headT b (.node b1 .nil (.node b2 k2 .nil))).length : Int) = ((bs (tx b (.node b1 .nil (.node b2 k2 .nil)))).size : Int) by rw [z, hl]; simp [headT, hb]; omega)
    generalize hT : bs (tx b (.node b1 .nil (.node b2 k2 .nil))) = T at z z0 z1 h0 HL ⊢
    have g97 : ((T[0].toNat : Int) == 97) = true := by rw [h0]; simp; omega
    have g63 : ((T[0].toNat : Int) == 63) = false := by rw [h0]; simp; omega
    have g64 : ((T[0].toNat : Int) == 64) = false := by rw [h0]; simp; omega
    have g126 : ((T[0].toNat : Int) == 126) = false := by rw [h0]; simp; omega
    clear hb hi h0 hT z
    go_enter Try.func43, Try.ntmps43
    go_wp2_with fail
    go_ret
    exact ⟨by rw [HL.out]; rfl, Below.refl _ _⟩
  · have HL := Lib.hid (show (1 : Int) + ((headT b (.node b1 k1 (.node b2 k2 .nil))).length : Int) = 1 by rcases hb with hb | hb <;> simp [headT, hb])
    generalize hT : bs (tx b (.node b1 k1 (.node b2 k2 .nil))) = T at z z0 z1 h0 ⊢
    have g97 : ((T[0].toNat : Int) == 97) = false := by rw [h0]; simp; omega
    have g63 : ((T[0].toNat : Int) == 63) = false := by rw [h0]; simp; omega
    have g64 : ((T[0].toNat : Int) == 64) = false := by rw [h0]; simp; omega
    have g126 : ((T[0].toNat : Int) == 126) = false := by rw [h0]; simp; omega
    clear hb hi h0 hT z
    go_enter Try.func43, Try.ntmps43
    go_wp2_with fail
    go_ret
    exact ⟨by rw [HL.out]; rfl, Below.refl _ _⟩
  · have HL := Lib.hid (show (1 : Int) + ((headT b (.node b0 k0 (.node b1 k1 (.node b2 k2 .nil)))).length : Int) = 1 + ((tx b0 k0).length : Int) by simp [headT, hb])
    have he := ends_is i0 (l := tx b (.node b0 k0 (.node b1 k1 (.node b2 k2 .nil)))) (r := (F.node b1 k1 (.node b2 k2 .nil)).text) (a := 1) (by simp [tx, F.text])
    have hc := specTestAny (bs (tx b (.node b0 k0 (.node b1 k1 (.node b2 k2 .nil))))) (by omega) wide 1
    rw [bs_list] at hc
    rw [show ((1 : Nat) : Int) = 1 by rfl] at he
    rw [he] at hc
    have HC := Lib.hid hc
    clear hc he
    generalize hT : bs (tx b (.node b0 k0 (.node b1 k1 (.node b2 k2 .nil)))) = T at z z0 z1 h0 HC ⊢
    have g97 : ((T[0].toNat : Int) == 97) = false := by rw [h0]; simp; omega
    have g63 : ((T[0].toNat : Int) == 63) = true := by rw [h0]; simp; omega
    have g64 : ((T[0].toNat : Int) == 64) = false := by rw [h0]; simp; omega
    have g126 : ((T[0].toNat : Int) == 126) = false := by rw [h0]; simp; omega
    clear hb hi h0 hT
    go_enter Try.func43, Try.ntmps43
    go_wp2_with fail
    refine (HC.out _ (by omega)).mono ?_
    rintro e w1 ⟨rfl, hb1⟩
    go_wp2_with fail
    go_ret
    exact ⟨by rw [HL.out]; rfl, hb1⟩
  · have HL := Lib.hid (show (1 : Int) + ((headT b (.node b0 k0 (.node b1 k1 .nil))).length : Int) = 1 + ((tx b0 k0).length : Int) by simp [headT, hb])
    have he := ends_is i0 (l := tx b (.node b0 k0 (.node b1 k1 .nil))) (r := (F.node b1 k1 .nil).text) (a := 1) (by simp [tx, F.text])
    have hc := specTestAny (bs (tx b (.node b0 k0 (.node b1 k1 .nil)))) (by omega) wide 1
    rw [bs_list] at hc
    rw [show ((1 : Nat) : Int) = 1 by rfl] at he
    rw [he] at hc
    have HC := Lib.hid hc
    clear hc he
    generalize hT : bs (tx b (.node b0 k0 (.node b1 k1 .nil))) = T at z z0 z1 h0 HC ⊢
    have g97 : ((T[0].toNat : Int) == 97) = false := by rw [h0]; simp; omega
    have g63 : ((T[0].toNat : Int) == 63) = false := by rw [h0]; simp; omega
    have g64 : ((T[0].toNat : Int) == 64) = true := by rw [h0]; simp; omega
    have g126 : ((T[0].toNat : Int) == 126) = false := by rw [h0]; simp; omega
    clear hb hi h0 hT
    go_enter Try.func43, Try.ntmps43
    go_wp2_with fail
    refine (HC.out _ (by omega)).mono ?_
    rintro e w1 ⟨rfl, hb1⟩
    go_wp2_with fail
    go_ret
    exact ⟨by rw [HL.out]; rfl, hb1⟩
  · have HL := Lib.hid (show (1 : Int) + ((headT b (.node b0 k0 .nil)).length : Int) = 1 + ((tx b0 k0).length : Int) by simp [headT, hb])
    have he := ends_is i0 (l := tx b (.node b0 k0 .nil)) (r := ([] : List UInt8)) (a := 1) (by simp [tx, F.text])
    have hc := specTestAny (bs (tx b (.node b0 k0 .nil))) (by omega) wide 1
    rw [bs_list] at hc
    rw [show ((1 : Nat) : Int) = 1 by rfl] at he
    rw [he] at hc
    have HC := Lib.hid hc
    clear hc he
    generalize hT : bs (tx b (.node b0 k0 .nil)) = T at z z0 z1 h0 HC ⊢
    have g97 : ((T[0].toNat : Int) == 97) = false := by rw [h0]; simp; omega
    have g63 : ((T[0].toNat : Int) == 63) = false := by rw [h0]; simp; omega
    have g64 : ((T[0].toNat : Int) == 64) = false := by rw [h0]; simp; omega
    have g126 : ((T[0].toNat : Int) == 126) = true := by rw [h0]; simp; omega
    clear hb hi h0 hT
    go_enter Try.func43, Try.ntmps43
    go_wp2_with fail
    refine (HC.out _ (by omega)).mono ?_
    rintro e w1 ⟨rfl, hb1⟩
    go_wp2_with fail
    go_ret
    exact ⟨by rw [HL.out]; rfl, hb1⟩
/-- What the function answers. -/
def headV (s : ByteArray) : ByteArray := if okS false 2 200 s then (match P false [2] s.data.toList with | some (.node b k _, _) => bs (headT b k) | _ => bs []) else bs []
theorem headV_is {b : UInt8} {k : F} (hi : Is false 2 b k) (hok : okS false 2 200 (bs (tx b k)) = true) : headV (bs (tx b k)) = bs (headT b k) := by
  have := P_is hi []
  rw [List.append_nil] at this
  simp only [headV, hok, bs_list, this]; rfl
theorem headV_no {s : ByteArray} (hok : okS false 2 200 s = false) : headV s = bs [] := by simp [headV, hok]
end Go.Proofs.Ytaimlfhbcgocnaa.Hd
