/- Contracts and law: AssignPost. -/
import Derived.Test.YtkajfjbdlkkieaaDoorAssign
namespace Go.Proofs.YtkajfjbdlkkieaaDoor.Po
open Go.RowKit Go.Deep Go.Sort Go.Proofs.YtkajfjbdlkkieaaDoor.Pl Go.Proofs.YtkajfjbdlkkieaaDoor.Bi Go.Proofs.YtkajfjbdlkkieaaDoor.Ro Go.Proofs.YtkajfjbdlkkieaaDoor.Se Go.Proofs.YtkajfjbdlkkieaaDoor.St Go.Proofs.YtkajfjbdlkkieaaDoor.En Go.Proofs.YtkajfjbdlkkieaaDoor.Nu Go.Proofs.YtkajfjbdlkkieaaDoor.Wt Go.Proofs.YtkajfjbdlkkieaaDoor.Va Go.Proofs.YtkajfjbdlkkieaaDoor.Ps Go.Proofs.YtkajfjbdlkkieaaDoor.Vl Go.Proofs.YtkajfjbdlkkieaaDoor.El Go.Proofs.YtkajfjbdlkkieaaDoor.As
set_option linter.unusedVariables false

/-- A row of bytes out of a text: its room may be larger, and the mark lies behind it. -/
def rowB (w : World) (b : Nat) (t : TypeId) (n : Nat) (f : Nat → Value) : Prop :=
  ∃ (c : Array Value), w.heap[b]? = some (.cells c t (c.size, c.size + 1)) ∧ n ≤ c.size ∧ ∀ i, i < n → c[i]? = some (f i)
theorem rowB.cell {w : World} {b : Nat} {t : TypeId} {n : Nat} {f : Nat → Value} (h : rowB w b t n f) {i : Nat} (hi : i < n) : w.cell? ⟨b, i, none⟩ = some (f i) := by
  obtain ⟨c, hb, _, hc⟩ := h
  simp [World.cell?, hb, hc i hi]
theorem rowB.frozen {w : World} {b : Nat} {t : TypeId} {n : Nat} {f : Nat → Value} (h : rowB w b t n f) {i : Nat} (hi : i < n) : w.frozen? ⟨b, i, none⟩ = false := by
  obtain ⟨c, hb, hn, _⟩ := h
  simp [World.frozen?, hb]
  omega
theorem rowB.congr {w : World} {b : Nat} {t : TypeId} {n : Nat} {f g : Nat → Value} (h : rowB w b t n f) (e : ∀ i, i < n → f i = g i) : rowB w b t n g := by
  obtain ⟨c, hb, hn, hc⟩ := h
  exact ⟨c, hb, hn, fun i hi => by rw [hc i hi, e i hi]⟩
theorem rowB.set {w : World} {b : Nat} {t : TypeId} {n : Nat} {f : Nat → Value} (h : rowB w b t n f) (i : Nat) (v : Value) : rowB (w.setCell ⟨b, i, none⟩ v) b t n (fun j => if j = i then v else f j) := by
  obtain ⟨c, hb, hn, hc⟩ := h
  refine ⟨c.setIfInBounds i v, ?_, by simpa using hn, fun j hj => ?_⟩
  · simp [World.setCell, Array.getElem?_modify, hb]
  · rw [Array.getElem?_setIfInBounds]
    by_cases e : j = i
    · subst e
      simp only [if_true]
      rw [if_pos (by omega)]
    · rw [if_neg (fun h => e h.symm)]
      show c[j]? = some (if j = i then v else f j)
      rw [if_neg e]
      exact hc j hj
/-- The i-th byte. -/
def byt (s : ByteArray) (i : Nat) : UInt8 := s.data.toList.getD i 0
theorem byt_at {s : ByteArray} {i : Nat} (h : i < s.size) : byt s i = s[i] := by
  unfold byt
  rw [List.getD_eq_getElem?_getD, List.getElem?_eq_getElem (by simpa using h)]
  rfl
theorem rowB_drewN {w : World} {b : Nat} {t : TypeId} {n : Nat} {f : Nat → Value} (h : rowB w b t n f) (m : Nat) : rowB (w.drewN m) b t n f := by
  obtain ⟨c, hb, r⟩ := h
  exact ⟨c, hb, r⟩
theorem rowB_made (w : World) (s : ByteArray) (t : TypeId) (m : Nat) :
    rowB (w.alloc (.cells (bytesRow s m) t ((bytesRow s m).size, (bytesRow s m).size + 1))) w.heap.size t s.size (fun i => .int .u8 (byt s i).toNat) := by
  refine ⟨bytesRow s m, blk_alloc_new _ _, ?_, fun i hi => ?_⟩
  · unfold bytesRow
    rw [Array.size_append, Array.size_map]
    exact Nat.le_add_right _ _
  · show _ = some (Value.int .u8 (byt s i).toNat)
    rw [byt_at hi]
    have hi' : i < s.data.size := hi
    unfold bytesRow
    rw [Array.getElem?_append_left (by simpa using hi')]
    simp only [Array.getElem?_map, Array.getElem?_eq_getElem hi', Option.map_some]
    rfl
theorem convRow {w : World} {b t n cap : Nat} {g : Nat → UInt8} (h : rowB w b t n (fun i => .int .u8 (g i).toNat)) :
    (convert 28 9 (.slice (some ⟨b, 0, none⟩) n cap)).run Tryd.prog w = .ok (.string (mk n g)) w := by
  have hr := run_convert_bytes_back (P := Tryd.prog) w 28 9 5 ⟨b, 0, none⟩ cap ((List.range n).map g) Tryd.underlying28 Tryd.underlying5 Tryd.underlying9 (fun j hj => by
    have hj' : j < n := by simpa using hj
    have := h.cell hj'
    have e : (⟨b, 0, none⟩ : Addr).add j = ⟨b, j, none⟩ := by unfold Addr.add; split <;> simp_all
    rw [e]
    simpa using this)
  simpa [mk] using hr
theorem convBack (w : World) (s : ByteArray) :
    (convert 9 28 (.string s)).run Tryd.prog w = .ok (.slice (some ⟨w.heap.size, 0, none⟩) s.size (grownCap w s.size 0 5))
      (w.drew.alloc (.cells (bytesRow s (grownCap w s.size 0 5)) 5 ((bytesRow s (grownCap w s.size 0 5)).size, (bytesRow s (grownCap w s.size 0 5)).size + 1))) :=
  run_bytes_of_string w 9 28 5 s Tryd.underlying9 Tryd.underlying28 Tryd.underlying5
theorem wp_world {P : Program} {c : Code} {Q : Exit → Act → World → Prop} {a : Act} {w : World} (R : World → Prop) (h : R w) (k : ∀ W, R W → c.wp P Q a W) : c.wp P Q a w := k w h
theorem mk_append (a b : Nat) (f g : Nat → UInt8) : mk a f ++ mk b g = mk (a + b) (fun i => if i < a then f i else g (i - a)) := by
  apply ByteArray.ext
  simp only [ByteArray.data_append, mk]
  apply Array.toList_inj.1
  rw [Array.toList_append, List.range_add, List.map_append, List.map_map]
  congr 1
  · exact List.map_congr_left fun i hi => by rw [if_pos (by simpa using hi)]
  · exact List.map_congr_left fun i _ => by simp; intro h; omega

/-! ### Plain -/
/-- Is j the number of one of the first k states of the set, behind the assignment? -/
def hit (p : ByteArray) (f : Nat → Nat) : Nat → Nat → Bool
  | 0, _ => false
  | k + 1, j => hit p f k j || (one p k && f k == j)
theorem hit_no {p : ByteArray} {f : Nat → Nat} {k : Nat} (h : one p k = false) (j : Nat) : hit p f (k + 1) j = hit p f k j := by simp [hit, h]
theorem hit_yes {p : ByteArray} {f : Nat → Nat} {k : Nat} (h : one p k = true) (j : Nat) : hit p f (k + 1) j = (hit p f k j || f k == j) := by simp [hit, h]
def postV (p v e : ByteArray) : Option ByteArray := if okA p v e = true then some (mk 27 fun j => bt (hit p (toE v e) 27 j)) else none
def zeros (n : Nat) : ByteArray := mk n fun _ => 48
theorem zeros_add (a b : Nat) : zeros a ++ zeros b = zeros (a + b) := by
  unfold zeros
  rw [mk_append]
  exact mk_congr fun i _ => by simp
theorem zeros_size (n : Nat) : (zeros n).size = n := mk_size _ _
theorem infoBool : (Tryd.prog.info? 4).map (fun i => (i.zero, i.size, i.bytes)) = some (some (.bool false), 1, 1) := by kernel_rfl
set_option maxRecDepth 100000 in
theorem specMany (w : World) : Calls Tryd.prog 31 #[.string ⟨#[48]⟩, .int .i64 27] w fun e w' => e = .returned (.string (zeros 27)) ∧ Below w.heap.size w w' := by
  go_enter Tryd.func31, Tryd.ntmps31
  have hz : ∀ n, (zeros n).size = n := zeros_size
  have h0 : (⟨#[]⟩ : ByteArray) = zeros 0 := rfl
  have h1 : (⟨#[48]⟩ : ByteArray) = zeros 1 := rfl
  go_wp2_with fail
  go_loopw [0, 1, 5] (fun s n o wr => w = wr ∧ ((n = .int .i64 27 ∧ o = .string (zeros 0) ∧ s = .string (zeros 1)) ∨ (n = .int .i64 13 ∧ o = .string (zeros 1) ∧ s = .string (zeros 2)) ∨ (n = .int .i64 6 ∧ o = .string (zeros 3) ∧ s = .string (zeros 4)) ∨ (n = .int .i64 3 ∧ o = .string (zeros 3) ∧ s = .string (zeros 8)) ∨ (n = .int .i64 1 ∧ o = .string (zeros 11) ∧ s = .string (zeros 16)) ∨ (n = .int .i64 0 ∧ o = .string (zeros 27) ∧ s = .string (zeros 32)))) (fun _ n _ _ => (intOf n).toNat)
  case atStart => exact ⟨rfl, .inl ⟨rfl, rfl, rfl⟩⟩
  case round =>
    obtain ⟨rfl, h⟩ := hrel
    rcases h with ⟨rfl, rfl, rfl⟩ | ⟨rfl, rfl, rfl⟩ | ⟨rfl, rfl, rfl⟩ | ⟨rfl, rfl, rfl⟩ | ⟨rfl, rfl, rfl⟩ | ⟨rfl, rfl, rfl⟩
    · have e1 := zeros_add 0 1
      have e2 := zeros_add 1 1
      go_wp2_with fail
      go_roundw
      case rel => exact ⟨trivial, .inr (.inl ⟨rfl, rfl, rfl⟩)⟩
      case measure => simp [intOf]
    · have e1 := zeros_add 1 2
      have e2 := zeros_add 2 2
      go_wp2_with fail
      go_roundw
      case rel => exact ⟨trivial, .inr (.inr (.inl ⟨rfl, rfl, rfl⟩))⟩
      case measure => simp [intOf]
    · have e1 := zeros_add 3 4
      have e2 := zeros_add 4 4
      go_wp2_with fail
      go_roundw
      case rel => exact ⟨trivial, .inr (.inr (.inr (.inl ⟨rfl, rfl, rfl⟩)))⟩
      case measure => simp [intOf]
    · have e1 := zeros_add 3 8
      have e2 := zeros_add 8 8
      go_wp2_with fail
      go_roundw
      case rel => exact ⟨trivial, .inr (.inr (.inr (.inr (.inl ⟨rfl, rfl, rfl⟩))))⟩
      case measure => simp [intOf]
    · have e1 := zeros_add 11 16
      have e2 := zeros_add 16 16
      go_wp2_with fail
      go_roundw
      case rel => exact ⟨trivial, .inr (.inr (.inr (.inr (.inr (⟨rfl, rfl, rfl⟩)))))⟩
      case measure => simp [intOf]
    · go_wp2_with fail
      go_ret
      exact ⟨rfl, Below.refl _ _⟩
theorem rowB_below {w w' : World} {b : Nat} {t : TypeId} {n : Nat} {f : Nat → Value} (h : rowB w b t n f) (hb : Below w.heap.size w w') : rowB w' b t n f := by
  obtain ⟨c, h1, h2, h3⟩ := h
  exact ⟨c, by rw [hb.block b (Array.getElem?_eq_some_iff.1 h1).1]; exact h1, h2, h3⟩
theorem zero_row {w : World} {p : ByteArray} {f : Nat → Nat} {m : Nat} : rowB (w.alloc (.cells (bytesRow (zeros 27) m) 5 ((bytesRow (zeros 27) m).size, (bytesRow (zeros 27) m).size + 1))) w.heap.size 5 27 (fun u => .int .u8 (bt (hit p f 0 u)).toNat) := by
  have := rowB_made w (zeros 27) 5 m
  rw [zeros_size] at this
  refine this.congr fun i hi => ?_
  have h2 : i < (zeros 27).size := by rw [zeros_size]; exact hi
  rw [byt_at h2]
  congr 2
  exact congrArg UInt8.toNat (mk_get _ _ _ h2)
theorem hit_set {w : World} {b : Nat} {t : TypeId} {p : ByteArray} {f : Nat → Nat} {k x : Nat} (h : rowB w b t 27 (fun u => .int .u8 (bt (hit p f k u)).toNat)) (ho : one p k = true) (hx : f k = x) :
    rowB (w.setCell ⟨b, x, none⟩ (.int .u8 49)) b t 27 (fun u => .int .u8 (bt (hit p f (k + 1) u)).toNat) :=
  (h.set x (.int .u8 49)).congr fun u _ => by
    rw [hit_yes ho u, hx]
    by_cases e : u = x
    · subst e; simp [bt]
    · rw [if_neg e]
      have : (x == u) = false := by simp; exact fun h => e h.symm
      rw [this, Bool.or_false]
set_option maxRecDepth 100000 in
set_option maxHeartbeats 1000000 in
theorem specAssignPost (p v e : ByteArray) (w : World) (hp : p.size ≤ 1048576) (he : e.size ≤ 1048576) : Calls Tryd.prog 13 #[.string p, .string v, .string e] w fun x w' => x = .returned (strV (postV p v e)) ∧ Below w.heap.size w w' := by
  have hp' : p.size ≤ maxLen := by unfold maxLen; omega
  have HV := Lib.hid (fun w => specPredValid p w hp')
  have HN := Lib.hid (fun w => specVar v w)
  have HE := Lib.hid (fun w => specExprValid e w he)
  cases h1 : bitsB p 27 with
  | false =>
    have H := Lib.hid (show postV p v e = none by simp [postV, okA, h1])
    rw [h1] at HV
    clear h1
    go_enter Tryd.func13, Tryd.ntmps13
    go_wp2_with (go_at_call 23; refine (HV.out _).mono ?_; rintro x w1 ⟨rfl, rfl⟩)
    exact bodyPost_ret (v := .tuple #[.string ⟨#[]⟩, .bool false]) (by simp [results, Tryd.results13, go_sem]) rfl ⟨by rw [H.out]; rfl, Below.refl _ _⟩
  | true =>
    rw [h1] at HV
    by_cases h2 : 0 ≤ varNo v
    · obtain ⟨n, c, hn, rfl, hc, hvn⟩ := var_is h2
      rw [hvn] at HN
      have hn0 : decide ((n : Int) < 0) = false := by simp
      cases h3 : okS false 0 200 e with
      | false =>
        have H := Lib.hid (show postV p ⟨#[c]⟩ e = none by simp [postV, okA, h3])
        rw [h3] at HE
        clear h1 h2 h3
        go_enter Tryd.func13, Tryd.ntmps13
        go_wp2_with (first | (go_at_call 23; refine (HV.out _).mono ?_; rintro x w1 ⟨rfl, rfl⟩) | (go_at_call 16; refine (HN.out _).mono ?_; rintro x w2 ⟨rfl, rfl⟩) | (go_at_call 15; refine (HE.out _).mono ?_; rintro x w3 ⟨rfl, hb3⟩))
        exact bodyPost_ret (v := .tuple #[.string ⟨#[]⟩, .bool false]) (by simp [results, Tryd.results13, go_sem]) rfl ⟨by rw [H.out]; rfl, hb3⟩
      | true =>
        obtain ⟨hl, b, k, hi, rfl⟩ := okS_is h3
        have H := Lib.hid (show postV p ⟨#[c]⟩ (bs (tx b k)) = some (mk 27 fun j => bt (hit p (toN n b k) 27 j)) by
          rw [postV, if_pos (by simp [okA, h1, h2, h3])]
          rw [show toE ⟨#[c]⟩ (bs (tx b k)) = toN n b k from funext fun i => toE_is hvn hi i])
        have HS := Lib.hid (bits_size h1)
        have HBIT := Lib.hid (fun j hj => bits_bit h1 (k := j) hj)
        have HC := Lib.hid (fun i hlt w => specAssign n hn b k hi (by omega) i hlt w)
        have HTO := Lib.hid (fun i hlt => to_lt n b k i hlt)
        have HIX := Lib.hid (fun i (hlt : i < 27) w => sp_boxed (specIndex _ _ _ w (st_ok n i (vlN b k i) hlt (vl_nat b k i hlt).2)))
        have HXX := Lib.hid (fun i (hlt : i < 27) => (show ix _ _ _ = ((toN n b k i : Nat) : Int) from ix_wv n i (vlN b k i) hn hlt (vl_nat b k i hlt).2))
        rw [h3] at HE
        obtain ⟨F0, hF0⟩ : ∃ F0, toN n b k = F0 := ⟨_, rfl⟩
        rw [hF0] at H HTO HXX
        clear hF0
        obtain ⟨T, hT⟩ : ∃ T, bs (tx b k) = T := ⟨_, rfl⟩
        rw [hT] at HE HC H
        rw [hT]
        have hcv := convBack
        have HMY := Lib.hid specMany
        clear h1 h2 h3 hT hl he
        go_enter Tryd.func13, Tryd.ntmps13
        go_wp2_with (first | (go_at_call 23; refine (HV.out _).mono ?_; rintro x w1 ⟨rfl, rfl⟩) | (go_at_call 16; refine (HN.out _).mono ?_; rintro x w2 ⟨rfl, rfl⟩) | (go_at_call 15; refine (HE.out _).mono ?_; rintro x w3 ⟨rfl, hb3⟩) | (go_at_call 31; refine (HMY.out _).mono ?_; rintro x w4 ⟨rfl, hb4⟩; have hz := zeros_size 27))
        have hb34 := hb3.trans (hb4.mono hb3.size)
        have HB34 := Lib.hid hb34
        go_loopw [9] (fun i wr => ∃ j : Nat, j ≤ 27 ∧ i = .int .i64 j ∧ rowB wr w4.heap.size 5 27 (fun u => .int .u8 (bt (hit p F0 j u)).toNat) ∧ Below w.heap.size w wr) (fun i _ => 27 - (intOf i).toNat)
        case atStart => exact ⟨0, Nat.zero_le _, rfl, zero_row, (hb34.drew).alloc hb34.size _⟩
        case round =>
          clear hb3 hb4 hb34 hcv hz
          obtain ⟨i, hi27, rfl, hrow, hb⟩ := hrel
          by_cases hlt : i < 27
          · have hd : decide ((i : Int) < 27) = true := by simp; omega
            have hip : i < p.size := by have := HS.out; omega
            have HROW := Lib.hid hrow
            have HB := Lib.hid hb
            by_cases e1 : p[i].toNat = 49
            · have g1 : ((p[i].toNat : Int) == 49) = true := by simp; omega
              have HO := Lib.hid (one_true hip e1)
              have HAT := Lib.hid (fun w => sp_boxed (specAt (i : Int) w (by omega) (by omega)))
              have HA1 := Lib.hid (HC.out i hlt)
              have HI1 := Lib.hid (HIX.out i hlt)
              rw [HXX.out i hlt] at HI1
              obtain ⟨X, hX⟩ : ∃ X : Int, (if n = 0 then (vlN b k i : Int) else sx i) = X := ⟨_, rfl⟩
              obtain ⟨Y, hY⟩ : ∃ Y : Int, (if n = 1 then (vlN b k i : Int) else sy i) = Y := ⟨_, rfl⟩
              obtain ⟨Z, hZ⟩ : ∃ Z : Int, (if n = 2 then (vlN b k i : Int) else sz i) = Z := ⟨_, rfl⟩
              rw [hX, hY, hZ] at HA1 HI1
              clear hX hY hZ
              have ht := HTO.out i hlt
              obtain ⟨t, htt⟩ : ∃ t, F0 i = t := ⟨_, rfl⟩
              have HTT := Lib.hid htt
              rw [htt] at HI1 ht
              clear htt hrow hb e1
              go_wp2_with fail
              refine (HAT.out _).mono ?_
              rintro x w5 ⟨rfl, hb5⟩
              go_wp2_with fail
              refine (HN.out _).mono ?_
              rintro x w6 ⟨rfl, rfl⟩
              go_wp2_with fail
              refine (HA1.out _).mono ?_
              rintro x w7 ⟨rfl, hb7⟩
              go_wp2_with fail
              refine (HI1.out _).mono ?_
              rintro x w8 ⟨rfl, hb8⟩
              have hx := hb5.trans ((hb7.trans (hb8.mono hb7.size)).mono hb5.size)
              have HR8 := Lib.hid (rowB_below HROW.out hx)
              have HB8 := Lib.hid (HB.out.trans (hx.mono HB.out.size))
              have hcell := HR8.out.cell ht
              have hfz := HR8.out.frozen ht
              clear hx hb5 hb7 hb8
              go_wp2_with fail
              go_roundw
              case rel => exact ⟨i + 1, by omega, by go_num, hit_set HR8.out HO.out HTT.out, HB8.out.setCell (p := ⟨w4.heap.size, t, none⟩) HB34.out.size _⟩
              case measure => simp [intOf]; omega
            · have g1 : ((p[i].toNat : Int) == 49) = false := by simp; omega
              have HO := Lib.hid (one_false hip e1)
              clear hrow hb e1
              go_wp2_with fail
              go_roundw
              case rel => exact ⟨i + 1, by omega, by go_num, HROW.out.congr fun u _ => by rw [hit_no HO.out u], HB.out⟩
              case measure => simp [intOf]; omega
          · obtain rfl : i = 27 := by omega
            have hcv := convRow (cap := grownCap w4 27 0 5) hrow
            go_wp2_with fail
            exact bodyPost_ret (v := .tuple #[.string (mk 27 fun j => bt (hit p F0 27 j)), .bool true]) (by simp [results, Tryd.results13, go_sem]) rfl ⟨by rw [H.out]; rfl, hb⟩
    · have H := Lib.hid (show postV p v e = none by simp [postV, okA, h2])
      have hv : varNo v = -1 := by rcases var_cases v with ⟨e, _⟩ | ⟨e, _⟩ | ⟨e, _⟩ | ⟨e, _⟩ <;> omega
      rw [hv] at HN
      clear h1 h2 hv
      go_enter Tryd.func13, Tryd.ntmps13
      go_wp2_with (first | (go_at_call 23; refine (HV.out _).mono ?_; rintro x w1 ⟨rfl, rfl⟩) | (go_at_call 16; refine (HN.out _).mono ?_; rintro x w2 ⟨rfl, rfl⟩) | (go_at_call 15; refine (HE.out _).mono ?_; rintro x w3 ⟨rfl, hb3⟩))
      exact bodyPost_ret (v := .tuple #[.string ⟨#[]⟩, .bool false]) (by simp [results, Tryd.results13, go_sem]) rfl ⟨by rw [H.out]; rfl, Below.refl _ _⟩
theorem bool_zero (w : World) (p : ByteArray) (f : Nat → Nat) : (w.alloc (.cells (madeCells #[.bool false] 27) 4)).rowIs w.heap.size 4 27 (fun u => .bool (hit p f 0 u)) :=
  (World.rowIs_made w (.bool false) 27 4).congr fun i _ => by simp [hit]
theorem bool_set {w : World} {b : Nat} {t : TypeId} {p : ByteArray} {f : Nat → Nat} {k x : Nat} {v : Bool} (h : w.rowIs b t 27 (fun u => .bool (hit p f k u))) (hx : f k = x) (hv : v = (hit p f k x || one p k)) :
    (w.setCell ⟨b, x, none⟩ (.bool v)).rowIs b t 27 (fun u => .bool (hit p f (k + 1) u)) :=
  (h.set x (.bool v)).congr fun u _ => by
    by_cases e : u = x
    · subst e; rw [if_pos rfl, hv]; simp [hit, hx]
    · rw [if_neg e]
      have : (x == u) = false := by simp; exact fun h => e h.symm
      simp [hit, hx, this]
theorem tells_post (p : ByteArray) (f : Nat → Nat) (w : World) (b1 g : Nat) (h1 : w.cell? ⟨b1, 0, none⟩ = some (.slice (some ⟨g, 0, none⟩) 27 27)) (hc : ∀ i, i < 27 → w.cell? ⟨g, i, none⟩ = some (.bool (hit p f 27 i))) :
    Tells 32 #[.pointer (some ⟨b1, 0, none⟩)] 27 (fun i => hit p f 27 i) w := by
  intro i hi W hb
  have c1 := (hb.cell (p := ⟨b1, 0, none⟩) (block_lt_of_cell h1)).trans h1
  have c3 := (hb.cell (p := ⟨g, i, none⟩) (block_lt_of_cell (hc i hi))).trans (hc i hi)
  obtain ⟨t, ht⟩ : ∃ t, hit p f 27 i = t := ⟨_, rfl⟩
  have HT := Lib.hid (show (fun i => hit p f 27 i) i = t by rw [← ht])
  rw [ht] at c3
  show Calls Tryd.prog 32 #[.int .i64 (i : Int), .pointer (some ⟨b1, 0, none⟩)] W _
  clear h1 hc hb ht
  go_enter Tryd.func32, Tryd.ntmps32
  go_wp2_with fail
  go_ret
  exact ⟨by rw [HT.out]; rfl, Below.refl _ _⟩
set_option maxRecDepth 100000 in
set_option maxHeartbeats 1000000 in
theorem implAssignPost (p v e : ByteArray) (w : World) (hp : p.size ≤ 1048576) (he : e.size ≤ 1048576) (hst : strideAt w) : Calls Tryd.prog 14 #[.string p, .string v, .string e] w fun x w' => x = .returned (strV (postV p v e)) ∧ Below w.heap.size w w' := by
  have hp' : p.size ≤ maxLen := by unfold maxLen; omega
  have HV := Lib.hid (fun w => implPredValid p w hp')
  have HST := Lib.hid hst
  clear hst
  by_cases h2 : 0 ≤ varNo v
  · obtain ⟨n, c, hn, rfl, hc, hvn⟩ := var_is h2
    have HA := Lib.hid (fun w hs => implAssigned n hn c hc e he w hs)
    go_enter Tryd.func14, Tryd.ntmps14
    go_wp2_with fail
    refine (HA.out _ HST.out).mono ?_
    rintro x w1 (⟨h3, rfl, hb1⟩ | ⟨b, k, g, cap, h3, hi, rfl, rfl, hO, hb1⟩)
    · have H := Lib.hid (show postV p ⟨#[c]⟩ e = none by simp [postV, okA, h3])
      have HB1 := Lib.hid hb1
      clear h3 hb1
      go_wp2_with (go_at_call 28; refine (HV.out _).mono ?_; rintro x w2 ⟨rfl, rfl⟩)
      exact bodyPost_ret (v := .tuple #[.string ⟨#[]⟩, .bool false]) (by simp [results, Tryd.results14, go_sem]) rfl ⟨by rw [H.out]; rfl, HB1.out⟩
    · have HB1 := Lib.hid hb1
      cases h1 : bitsB p 27 with
      | false =>
        have H := Lib.hid (show postV p ⟨#[c]⟩ (bs (tx b k)) = none by simp [postV, okA, h1])
        rw [h1] at HV
        clear h3 hb1 h1 hO
        go_wp2_with (go_at_call 28; refine (HV.out _).mono ?_; rintro x w2 ⟨rfl, rfl⟩)
        exact bodyPost_ret (v := .tuple #[.string ⟨#[]⟩, .bool false]) (by simp [results, Tryd.results14, go_sem]) rfl ⟨by rw [H.out]; rfl, HB1.out⟩
      | true =>
        have H := Lib.hid (show postV p ⟨#[c]⟩ (bs (tx b k)) = some (mk 27 fun j => bt (hit p (toN n b k) 27 j)) by
          rw [postV, if_pos (by simp [okA, h1, h2, h3])]
          rw [show toE ⟨#[c]⟩ (bs (tx b k)) = toN n b k from funext fun i => toE_is hvn hi i])
        rw [h1] at HV
        have HS := Lib.hid (bits_size h1)
        have HTO := Lib.hid (fun i hlt => to_lt n b k i hlt)
        obtain ⟨h27, hg0, hgl, hcl⟩ := ints_cell hO
        have HCL := Lib.hid (show ∀ i, i < 27 → w1.cell? ⟨g, i, none⟩ = some (.int .i64 (toN n b k i : Int)) from fun i hi => hcl i _ (by simp [toL, hi]))
        obtain ⟨F0, hF0⟩ : ∃ F0, toN n b k = F0 := ⟨_, rfl⟩
        rw [hF0] at H HTO HCL
        have hmk := run_make_row' (P := Tryd.prog) 40 4 (.bool false) 1 Tryd.underlying40 infoBool rfl .i64 .i64 27 (by omega) (by omega)
        rw [show ((27 : Nat) : Int) = 27 from rfl] at hmk
        clear hF0 h27 h3 hb1 h1 hO hcl hg0
        go_wp2_with (first | (go_at_call 28; refine (HV.out _).mono ?_; rintro x w2 ⟨rfl, rfl⟩))
        have HLE := Lib.hid HB1.out.size
        go_loopw [11, 12, 29] (fun i1 j1 ix wr => ∃ j : Nat, j ≤ 27 ∧ ix = .int .i64 j ∧ wr.rowIs w1.heap.size 4 27 (fun u => .bool (hit p F0 j u)) ∧ wr.cell? ⟨w1.heap.size + 1, 0, none⟩ = some (.slice (some ⟨w1.heap.size, 0, none⟩) 27 27) ∧ Below w1.heap.size w1 wr) (fun _ _ ix _ => 27 - (intOf ix).toNat)
        case atStart => exact ⟨0, Nat.zero_le _, rfl, (bool_zero w1 p F0).alloc _, by simp [World.cell?_alloc_at], ((Below.refl _ w1).alloc (Nat.le_refl _) _).alloc (by simp) _⟩
        case round =>
          obtain ⟨j, hj, rfl, hrow, hbox, hb⟩ := hrel
          by_cases hlt : j < 27
          · have hd : decide ((j : Int) < 27) = true := by simp; omega
            have hip : j < p.size := by have := HS.out; omega
            have ct := (hb.cell (p := ⟨g, j, none⟩) hgl).trans (HCL.out j hlt)
            have ht := HTO.out j hlt
            obtain ⟨t, htt⟩ : ∃ t, F0 j = t := ⟨_, rfl⟩
            rw [htt] at ct ht
            have hcell := hrow.cell ht
            have hfz := hrow.frozen t
            have HB := Lib.hid (fun v => hb.setCell (p := ⟨w1.heap.size, t, none⟩) (Nat.le_refl _) v)
            have HBX := Lib.hid (fun v => (World.cell?_setCell_other _ _ _ v (by simp)).trans hbox : ∀ v, (wr.setCell ⟨w1.heap.size, t, none⟩ v).cell? ⟨w1.heap.size + 1, 0, none⟩ = _)
            have HR := Lib.hid (fun (x : Bool) (h : x = (hit p F0 j t || one p j)) => bool_set hrow htt h)
            cases hh : hit p F0 j t with
            | true =>
              rw [hh] at hcell
              have HR1 := Lib.hid (HR.out true (by rw [hh]; rfl))
              clear hrow hb hh htt HR
              go_wp2_with fail
              go_region
              go_wp2_with fail
              go_roundw
              case rel => exact ⟨j + 1, by omega, by go_num, HR1.out, HBX.out _, (HB.out _).drew⟩
              case measure => simp [intOf]; omega
            | false =>
              rw [hh] at hcell
              by_cases e1 : p[j].toNat = 49
              · have g1 : ((p[j].toNat : Int) == 49) = true := by simp; omega
                have HR1 := Lib.hid (HR.out true (by rw [hh, one_true hip e1]; rfl))
                clear hrow hb hh htt HR e1
                go_wp2_with fail
                go_region
                go_wp2_with fail
                go_roundw
                case rel => exact ⟨j + 1, by omega, by go_num, HR1.out, HBX.out _, (HB.out _).drew⟩
                case measure => simp [intOf]; omega
              · have g1 : ((p[j].toNat : Int) == 49) = false := by simp; omega
                have HR1 := Lib.hid (HR.out false (by rw [hh, one_false hip e1]; rfl))
                clear hrow hb hh htt HR e1
                go_wp2_with fail
                go_region
                go_wp2_with fail
                go_roundw
                case rel => exact ⟨j + 1, by omega, by go_num, HR1.out, HBX.out _, (HB.out _).drew⟩
                case measure => simp [intOf]; omega
          · obtain rfl : j = 27 := by omega
            have HT := Lib.hid (tells_post p F0 wr (w1.heap.size + 1) w1.heap.size hbox (fun i hi => hrow.cell hi))
            have HM := Lib.hid (makeSet 32 #[.pointer (some ⟨w1.heap.size + 1, 0, none⟩)] _ _ (fun _ _ => by simp [go_sem]) HT.out)
            have HBB := Lib.hid (HB1.out.trans (hb.mono HLE.out))
            obtain ⟨s, hs⟩ : ∃ s, mk 27 (fun i => bt (hit p F0 27 i)) = s := ⟨_, rfl⟩
            have HM' := HM.out
            change Calls _ _ _ _ (fun e w' => e = .returned (.string (mk 27 fun i => bt (hit p F0 27 i))) ∧ _) at HM'
            rw [hs] at H HM'
            have HM := Lib.hid HM'
            clear hrow hb HT HM' hs
            go_wp2_with (go_at_call 29; refine (HM.out).mono ?_; rintro x w3 ⟨rfl, hb3⟩)
            exact bodyPost_ret (v := .tuple #[.string s, .bool true]) (by simp [results, Tryd.results14, go_sem]) rfl ⟨by rw [H.out]; rfl, HBB.out.trans (hb3.mono HBB.out.size)⟩
  · have H := Lib.hid (show postV p v e = none by simp [postV, okA, h2])
    have HA := Lib.hid (fun w => implAssignedBad v e he w h2)
    clear h2
    go_enter Tryd.func14, Tryd.ntmps14
    go_wp2_with fail
    refine (HA.out _).mono ?_
    rintro x w1 ⟨rfl, hb1⟩
    have HB1 := Lib.hid hb1
    clear hb1
    go_wp2_with (go_at_call 28; refine (HV.out _).mono ?_; rintro x w2 ⟨rfl, rfl⟩)
    exact bodyPost_ret (v := .tuple #[.string ⟨#[]⟩, .bool false]) (by simp [results, Tryd.results14, go_sem]) rfl ⟨by rw [H.out]; rfl, HB1.out⟩
set_option maxRecDepth 100000 in
set_option maxHeartbeats 1000000 in
theorem lawAssignPost (p v e : ByteArray) (w : World) (hp : p.size ≤ maxLen) (hv : v.size ≤ maxLen) (he : e.size ≤ maxLen) (hst : strideAt w) :
    Calls Tryd.prog 6 #[.string p, .string v, .string e] w fun e' w' => e' = .returned (.bool true) ∧ Below w.heap.size w w' := by
  by_cases bigp : p.size ≤ 1048576
  case neg =>
    clear hst
    go_enter Tryd.func6, Tryd.ntmps6
    go_wp2
    go_ret
    exact ⟨rfl, Below.refl _ _⟩
  by_cases bigv : v.size ≤ 1048576
  case neg =>
    clear hst
    go_enter Tryd.func6, Tryd.ntmps6
    go_wp2
    go_ret
    exact ⟨rfl, Below.refl _ _⟩
  by_cases bige : e.size ≤ 1048576
  case neg =>
    clear hst
    go_enter Tryd.func6, Tryd.ntmps6
    go_wp2
    go_ret
    exact ⟨rfl, Below.refl _ _⟩
  have HS := Lib.hid (fun w => specAssignPost p v e w bigp bige)
  have HI := Lib.hid (fun w (h : strideAt w) => implAssignPost p v e w bigp bige h)
  have HX := Lib.hid hst
  clear hst
  cases hr : postV p v e
  all_goals
    rw [hr] at HS HI
    clear hr
    simp only [strV] at HS HI
    go_enter Tryd.func6, Tryd.ntmps6
    go_wp2_with (first | (go_at_call 13; refine (HS.out _).mono ?_; rintro x w1 ⟨rfl, hb1⟩) | (go_at_call 14; refine (HI.out _ (stride_below HX.out hb1)).mono ?_; rintro x w2 ⟨rfl, hb2⟩))
    go_ret
    exact ⟨by simp, hb1.trans (hb2.mono hb1.size)⟩
end Go.Proofs.YtkajfjbdlkkieaaDoor.Po
