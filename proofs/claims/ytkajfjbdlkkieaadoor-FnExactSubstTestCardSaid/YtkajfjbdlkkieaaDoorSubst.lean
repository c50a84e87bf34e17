/- Contracts and laws: SubstExpr, SubstTest. -/
import Derived.Test.YtkajfjbdlkkieaaDoorPrs
import Derived.Test.YtkajfjbdlkkieaaDoorSw
import Derived.Test.YtkajfjbdlkkieaaDoorAssign
import Derived.Test.YtkajfjbdlkkieaaDoorShelf
import Derived.Shelf.Strings.Replace
import Derived.Shelf.Vars
namespace Go.Proofs
theorem Tryd.extra155 : Builder.Extra Tryd.prog Tryd.lays155_ren where
  sizeBuilder := by kernel_rfl
  liesBuilder := by kernel_rfl
  t5 := Tryd.lays155.t5
  a5 := Tryd.lays155.a5
  z5 := Tryd.lays155.z5
  v5 := Tryd.lays155.v5
  infoByte := by kernel_rfl
  cellsByte := by kernel_rfl
  sizeByte := by kernel_rfl
  neB5 := by decide
end Go.Proofs
namespace Go.Proofs.YtkajfjbdlkkieaaDoor.Sb
open Go.RowKit Go.Deep Go.Sort Go.Proofs.YtkajfjbdlkkieaaDoor.Pl Go.Proofs.YtkajfjbdlkkieaaDoor.Bi Go.Proofs.YtkajfjbdlkkieaaDoor.Sw Go.Proofs.YtkajfjbdlkkieaaDoor.Va Go.Proofs.YtkajfjbdlkkieaaDoor.Ps Go.Proofs.YtkajfjbdlkkieaaDoor.As
set_option linter.unusedVariables false

/-! ### Plain -/
def subL (s : List UInt8) (c : UInt8) (by_ : List UInt8) : List UInt8 := s.flatMap fun b => if b == c then by_ else [b]
theorem subL_nil (c : UInt8) (n : List UInt8) : subL [] c n = [] := rfl
theorem subL_cons (b : UInt8) (l : List UInt8) (c : UInt8) (n : List UInt8) : subL (b :: l) c n = (if b == c then n else [b]) ++ subL l c n := rfl
theorem subL_app (a b : List UInt8) (c : UInt8) (n : List UInt8) : subL (a ++ b) c n = subL a c n ++ subL b c n := by simp [subL]
theorem subL_len (c : UInt8) (n : List UInt8) (m : Nat) (h1 : n.length ≤ m) (h2 : 1 ≤ m) : ∀ s : List UInt8, (subL s c n).length ≤ s.length * m
  | [] => by simp [subL]
  | b :: l => by
    rw [subL_cons, List.length_append, List.length_cons, Nat.add_mul, Nat.one_mul]
    have := subL_len c n m h1 h2 l
    split
    · omega
    · simp only [List.length_singleton]; omega
theorem no_count (c : UInt8) (n : List UInt8) : ∀ s : List UInt8, s.count c = 0 → subL s c n = s
  | [], _ => rfl
  | b :: l, h => by
    rw [List.count_cons] at h
    by_cases e : b = c
    · subst e; simp at h
    · have h0 : (b == c) = false := by simpa using e
      rw [h0] at h
      rw [subL_cons, h0, no_count c n l (by simpa using h)]; rfl
theorem replaceK_one (c : UInt8) (n : List UInt8) : ∀ s : List UInt8, Lib.replaceK [c] n (s.count c) s = subL s c n
  | [] => rfl
  | b :: l => by
    rw [List.count_cons]
    by_cases e : b = c
    · subst e
      have h0 : (b == b) = true := by simp
      rw [h0, if_pos rfl]
      have hi : Lib.index (b :: l) [b] = (0 : Nat) := by rw [Lib.index_one]; simp [Lib.indexByte]
      rw [Lib.replaceK_hit [b] n (l.count b) (b :: l) 0 hi, subL_cons, h0, if_pos rfl]
      have := replaceK_one b n l
      simp only [List.take_zero, List.nil_append, List.length_singleton, Nat.zero_add, List.drop_one, List.tail_cons]
      rw [this]
    · have h0 : (b == c) = false := by simpa using e
      rw [h0, if_neg (by simp), Nat.add_zero, subL_cons, h0, if_neg (by simp)]
      cases hk : l.count c with
      | zero => rw [Lib.replaceK, no_count c n l hk]; try rfl
      | succ k =>
        obtain ⟨i, hi⟩ := Lib.index_of_count (s := l) (old := [c]) (by rw [Lib.count_one]; omega)
        have hj : Lib.index (b :: l) [c] = ((i + 1 : Nat) : Int) := by
          rw [Lib.index_one] at hi ⊢
          rw [Lib.indexByte, h0, if_neg (by simp), hi, if_neg (by first | (simp; done) | (simp; omega))]
          omega
        have ih := replaceK_one c n l
        rw [hk, Lib.replaceK_hit [c] n k l i hi] at ih
        rw [Lib.replaceK_hit [c] n k (b :: l) (i + 1) hj, ← ih]
        simp
theorem replace_all (c : UInt8) (n s : List UInt8) : Lib.replaceAll s [c] n = subL s c n := by
  unfold Lib.replaceAll Lib.replace
  by_cases e : n = [c]
  · subst e
    rw [if_pos (by simp)]
    have : ∀ s : List UInt8, subL s c [c] = s := fun s => by
      induction s with
      | nil => rfl
      | cons b l ih =>
        rw [subL_cons, ih]
        by_cases e : b = c
        · subst e; simp
        · have h0 : (b == c) = false := by simpa using e
          rw [h0]; rfl
    exact (this s).symm
  · rw [if_neg (by simp; exact fun h => e h.symm)]
    have : Lib.replaceNum s [c] (-1) = s.count c := by
      unfold Lib.replaceNum
      rw [if_pos (Or.inl (by omega)), Lib.count_one]
    rw [this]
    exact replaceK_one c n s
def someMax (w : World) : Prop := ∃ m : Int, w.cell? ⟨1, 0, none⟩ = some (.int .i64 m)
theorem max_below {w w' : World} (h : someMax w) (hb : Below w.heap.size w w') : someMax w' := by
  obtain ⟨m, hm⟩ := h
  exact ⟨m, (hb.cell (p := ⟨1, 0, none⟩) (block_lt_of_cell hm)).trans hm⟩
theorem replaced (s by_ : ByteArray) (c : UInt8) (w : World) (hs : s.size ≤ 200) (hb : by_.size ≤ 200) (hm : someMax w) :
    Calls Tryd.prog 36 #[.string s, .string ⟨#[c]⟩, .string by_] w fun e w' => e = .returned (.string (bs (subL s.data.toList c by_.data.toList))) ∧ Below w.heap.size w w' := by
  obtain ⟨m, hm⟩ := hm
  have h1 := Lib.countB_mul_le (⟨#[c]⟩ : ByteArray) (show 1 ≤ (1 : Nat) by omega) s.size s (Nat.le_refl _)
  have h2 : Lib.countB s ⟨#[c]⟩ ≤ s.size := by
    have : (⟨#[c]⟩ : ByteArray).size = 1 := rfl
    rw [this, Nat.mul_one] at h1; exact h1
  have h3 := Nat.mul_le_mul h2 hb
  have := Any.strings_ReplaceAll Tryd.lays155 Tryd.extra155 s ⟨#[c]⟩ by_ m w (by omega) hm (show 1 ≤ (1 : Nat) by omega) (by omega)
  refine this.mono fun e w' ⟨he, hw⟩ => ⟨?_, hw⟩
  rw [he]
  show Ending.returned (Value.string ⟨(Lib.replaceAll s.data.toList [c] by_.data.toList).toArray⟩) = _
  rw [replace_all]; rfl
/-- The text behind a substitution, where there is one. -/
def cutV (s : ByteArray) : Option ByteArray := if s.size ≤ 200 then some s else none
def okB (sort : Nat) (e v by_ : ByteArray) : Bool := okS false sort 200 e && (decide (0 ≤ varNo v) && okS false 0 200 by_)
def letter (v : ByteArray) : UInt8 := v.data.toList.headD 0
def substV (sort : Nat) (e v by_ : ByteArray) : Option ByteArray := if okB sort e v by_ = true then cutV (bs (subL e.data.toList (letter v) by_.data.toList)) else none
theorem one_cut (s : ByteArray) (k : Nat) (hk : k < s.size) : s.extract k (k + 1) = bs [s[k]] := by
  refine bs_of ?_
  simp only [ByteArray.data_extract, Array.toList_extract, List.extract_eq_take_drop]
  have h : k < s.data.toList.length := by simpa using hk
  rw [List.drop_eq_getElem_cons h, show k + 1 - k = 1 by omega]; rfl
theorem drop_at' {l : List UInt8} {k : Nat} (h : k < l.length) : l.take (k + 1) = l.take k ++ [l[k]] := List.take_succ_eq_append_getElem h
set_option maxRecDepth 100000 in
set_option maxHeartbeats 1000000 in
theorem specSubst (s by_ : ByteArray) (c : UInt8) (w : World) (hs : s.size ≤ 200) (hb : by_.size ≤ 200) :
    Calls Tryd.prog 17 #[.string s, .int .u8 (c.toNat : Int), .string by_] w fun e w' => e = .returned (.string (bs (subL s.data.toList c by_.data.toList))) ∧ w = w' := by
  have HL := Lib.hid (subL_len c by_.data.toList 200 (by simpa using hb) (by omega))
  have HST := Lib.hid (fun (k : Nat) (hk : k < s.size) => (show subL (s.data.toList.take (k + 1)) c by_.data.toList = subL (s.data.toList.take k) c by_.data.toList ++ (if s[k] == c then by_.data.toList else [s[k]]) by
    rw [drop_at' (show k < s.data.toList.length by simpa using hk), subL_app]
    have e : s.data.toList[k]'(by simpa using hk) = s[k] := rfl
    rw [e]
    simp [subL]))
  have HBY := Lib.hid (bs_of (s := by_) rfl)
  have HEX := Lib.hid (fun (k : Nat) (hk : k < s.size) => one_cut s k hk)
  go_enter Tryd.func17, Tryd.ntmps17
  go_wp2_with fail
  go_loop [7, 8] (fun o i => ∃ k : Nat, k ≤ s.size ∧ i = .int .i64 k ∧ o = .string (bs (subL (s.data.toList.take k) c by_.data.toList))) (fun _ i => s.size - (intOf i).toNat)
  case atStart => exact ⟨0, Nat.zero_le _, rfl, rfl⟩
  case round =>
    obtain ⟨k, hk, rfl, rfl⟩ := hrel
    by_cases hlt : k < s.size
    · have HN := Lib.hid (HST.out k hlt)
      have HE := Lib.hid (HEX.out k hlt)
      have hz : (bs (subL (s.data.toList.take k) c by_.data.toList)).size ≤ 40000 := by
        rw [bs_size]
        have h1 := HL.out (s.data.toList.take k)
        have h2 : (s.data.toList.take k).length ≤ 200 := by rw [List.length_take]; omega
        have := Nat.mul_le_mul_right 200 h2
        omega
      obtain ⟨T, hT⟩ : ∃ T, subL (s.data.toList.take k) c by_.data.toList = T := ⟨_, rfl⟩
      rw [hT] at HN hz ⊢
      obtain ⟨o, ho⟩ : ∃ o, bs T = o := ⟨_, rfl⟩
      have HO := Lib.hid ho
      rw [ho] at hz ⊢
      clear hT ho
      by_cases e : s[k] = c
      · have g : ((s[k].toNat : Int) == (c.toNat : Int)) = true := by rw [e]; simp
        have HV := Lib.hid (show bs (subL (s.data.toList.take (k + 1)) c by_.data.toList) = o ++ by_ by
          rw [HN.out, if_pos (by rw [e]; simp), ← bs_app, HO.out, ← HBY.out])
        clear e
        go_wp2_with fail
        go_round
        case rel => exact ⟨k + 1, by omega, by go_num, by rw [HV.out]⟩
        case measure => simp [intOf]; omega
      · have g : ((s[k].toNat : Int) == (c.toNat : Int)) = false := by
          rw [beq_eq_false_iff_ne]
          intro h
          exact e (UInt8.toNat_inj.1 (by omega))
        have HV := Lib.hid (show bs (subL (s.data.toList.take (k + 1)) c by_.data.toList) = o ++ s.extract k (k + 1) by
          rw [HN.out, if_neg (by simpa using e), ← bs_app, HO.out, HE.out])
        clear e
        go_wp2_with fail
        go_round
        case rel => exact ⟨k + 1, by omega, by go_num, by rw [HV.out]⟩
        case measure => simp [intOf]; omega
    · obtain rfl : k = s.size := by omega
      have HV := Lib.hid (show s.data.toList.take s.size = s.data.toList from List.take_of_length_le (by simp))
      rw [HV.out]
      go_wp2_with fail
      go_ret
      exact ⟨rfl, rfl⟩
theorem implSubst (s by_ : ByteArray) (c : UInt8) (w : World) (hs : s.size ≤ 200) (hb : by_.size ≤ 200) (hm : someMax w) :
    Calls Tryd.prog 20 #[.string s, .string ⟨#[c]⟩, .string by_] w fun e w' => e = .returned (strV (cutV (bs (subL s.data.toList c by_.data.toList)))) ∧ Below w.heap.size w w' := by
  have HR := Lib.hid (replaced s by_ c w hs hb hm)
  clear hm
  obtain ⟨o, ho⟩ : ∃ o, bs (subL s.data.toList c by_.data.toList) = o := ⟨_, rfl⟩
  rw [ho] at HR ⊢
  clear ho
  by_cases hz : o.size ≤ 200
  · have HV := Lib.hid (show cutV o = some o by simp [cutV, hz])
    have hz1 : (o.size : Int) ≤ 200 := by omega
    go_enter Tryd.func20, Tryd.ntmps20
    go_wp2_with fail
    refine (HR.out).mono ?_
    rintro e w1 ⟨rfl, hb1⟩
    go_wp2_with fail
    exact bodyPost_ret (v := .tuple #[.string o, .bool true]) (by simp [results, Tryd.results20, go_sem]) rfl ⟨by rw [HV.out]; rfl, hb1⟩
  · have HV := Lib.hid (show cutV o = none by simp [cutV, hz])
    have hz1 : (200 : Int) < (o.size : Int) := by omega
    go_enter Tryd.func20, Tryd.ntmps20
    go_wp2_with fail
    refine (HR.out).mono ?_
    rintro e w1 ⟨rfl, hb1⟩
    go_wp2_with fail
    exact bodyPost_ret (v := .tuple #[.string ⟨#[]⟩, .bool false]) (by simp [results, Tryd.results20, go_sem]) rfl ⟨by rw [HV.out]; rfl, hb1⟩
set_option maxRecDepth 100000 in
set_option maxHeartbeats 1000000 in
theorem specSubstExpr (e v by_ : ByteArray) (w : World) (he : e.size ≤ 1048576) (hb : by_.size ≤ 1048576) : Calls Tryd.prog 7 #[.string e, .string v, .string by_] w fun x w' => x = .returned (strV (substV 0 e v by_)) ∧ Below w.heap.size w w' := by
  have HE := Lib.hid (fun w => specExprValid e w he)
  have HN := Lib.hid (fun w => specVar v w)
  have HY := Lib.hid (fun w => specExprValid by_ w hb)
  cases h1 : okS false 0 200 e with
  | false =>
    have H := Lib.hid (show substV 0 e v by_ = none by simp [substV, okB, h1])
    rw [h1] at HE
    clear h1
    go_enter Tryd.func7, Tryd.ntmps7
    go_wp2_with fail
    refine (HE.out _).mono ?_
    rintro x w1 ⟨rfl, hb1⟩
    go_wp2_with fail
    exact bodyPost_ret (v := .tuple #[.string ⟨#[]⟩, .bool false]) (by simp [results, Tryd.results7, go_sem]) rfl ⟨by rw [H.out]; rfl, hb1⟩
  | true =>
    rw [h1] at HE
    cases h3 : okS false 0 200 by_ with
    | false =>
      have H := Lib.hid (show substV 0 e v by_ = none by simp [substV, okB, h3])
      rw [h3] at HY
      clear h1 h3
      go_enter Tryd.func7, Tryd.ntmps7
      go_wp2_with fail
      refine (HE.out _).mono ?_
      rintro x w1 ⟨rfl, hb1⟩
      go_wp2_with fail
      refine (HY.out _).mono ?_
      rintro x w2 ⟨rfl, hb2⟩
      have hb3 := hb1.trans (hb2.mono hb1.size)
      go_wp2_with fail
      exact bodyPost_ret (v := .tuple #[.string ⟨#[]⟩, .bool false]) (by simp [results, Tryd.results7, go_sem]) rfl ⟨by rw [H.out]; rfl, hb3⟩
    | true =>
      rw [h3] at HY
      by_cases h2 : 0 ≤ varNo v
      · obtain ⟨n, c, hn, rfl, hc, hvn⟩ := var_is h2
        rw [hvn] at HN
        have hn0 : decide ((n : Int) < 0) = false := by simp
        have hse := (okS_is h1).1
        have hsb := (okS_is h3).1
        have H0 := Lib.hid (show substV 0 e ⟨#[c]⟩ by_ = cutV (bs (subL e.data.toList c by_.data.toList)) by rw [substV, if_pos (by simp [okB, h1, h2, h3])]; rfl)
        have HS := Lib.hid (fun w => specSubst e by_ c w hse hsb)
        obtain ⟨o, ho⟩ : ∃ o, bs (subL e.data.toList c by_.data.toList) = o := ⟨_, rfl⟩
        rw [ho] at H0 HS
        clear h1 h2 h3 ho hse hsb
        by_cases hz : o.size ≤ 200
        · have H := Lib.hid (H0.out.trans (show cutV o = some o by simp [cutV, hz]))
          have hz1 : (o.size : Int) ≤ 200 := by omega
          go_enter Tryd.func7, Tryd.ntmps7
          go_wp2_with fail
          refine (HE.out _).mono ?_
          rintro x w1 ⟨rfl, hb1⟩
          go_wp2_with fail
          refine (HY.out _).mono ?_
          rintro x w2 ⟨rfl, hb2⟩
          have hb3 := hb1.trans (hb2.mono hb1.size)
          go_wp2_with (first | (go_at_call 16; refine (HN.out _).mono ?_; rintro x w3 ⟨rfl, rfl⟩) | (go_at_call 17; refine (HS.out _).mono ?_; rintro x w4 ⟨rfl, rfl⟩))
          exact bodyPost_ret (v := .tuple #[.string o, .bool true]) (by simp [results, Tryd.results7, go_sem]) rfl ⟨by rw [H.out]; rfl, hb3⟩
        · have H := Lib.hid (H0.out.trans (show cutV o = none by simp [cutV, hz]))
          have hz1 : (200 : Int) < (o.size : Int) := by omega
          go_enter Tryd.func7, Tryd.ntmps7
          go_wp2_with fail
          refine (HE.out _).mono ?_
          rintro x w1 ⟨rfl, hb1⟩
          go_wp2_with fail
          refine (HY.out _).mono ?_
          rintro x w2 ⟨rfl, hb2⟩
          have hb3 := hb1.trans (hb2.mono hb1.size)
          go_wp2_with (first | (go_at_call 16; refine (HN.out _).mono ?_; rintro x w3 ⟨rfl, rfl⟩) | (go_at_call 17; refine (HS.out _).mono ?_; rintro x w4 ⟨rfl, rfl⟩))
          exact bodyPost_ret (v := .tuple #[.string ⟨#[]⟩, .bool false]) (by simp [results, Tryd.results7, go_sem]) rfl ⟨by rw [H.out]; rfl, hb3⟩
      · have H := Lib.hid (show substV 0 e v by_ = none by simp [substV, okB, h2])
        have hv : varNo v = -1 := by rcases var_cases v with ⟨e, _⟩ | ⟨e, _⟩ | ⟨e, _⟩ | ⟨e, _⟩ <;> omega
        rw [hv] at HN
        clear h1 h2 h3 hv
        go_enter Tryd.func7, Tryd.ntmps7
        go_wp2_with fail
        refine (HE.out _).mono ?_
        rintro x w1 ⟨rfl, hb1⟩
        go_wp2_with fail
        refine (HY.out _).mono ?_
        rintro x w2 ⟨rfl, hb2⟩
        have hb3 := hb1.trans (hb2.mono hb1.size)
        go_wp2_with (go_at_call 16; refine (HN.out _).mono ?_; rintro x w3 ⟨rfl, rfl⟩)
        exact bodyPost_ret (v := .tuple #[.string ⟨#[]⟩, .bool false]) (by simp [results, Tryd.results7, go_sem]) rfl ⟨by rw [H.out]; rfl, hb3⟩
set_option maxRecDepth 100000 in
set_option maxHeartbeats 1000000 in
theorem implSubstExpr (e v by_ : ByteArray) (w : World) (he : e.size ≤ 1048576) (hb : by_.size ≤ 1048576) (hst : someMax w) : Calls Tryd.prog 8 #[.string e, .string v, .string by_] w fun x w' => x = .returned (strV (substV 0 e v by_)) ∧ Below w.heap.size w w' := by
  have HE := Lib.hid (fun w => implExprValid e w he)
  have HN := Lib.hid (fun w => implIsVar v w)
  have HY := Lib.hid (fun w => implExprValid by_ w hb)
  have HST := Lib.hid hst
  clear hst
  cases h1 : okS false 0 200 e with
  | false =>
    have H := Lib.hid (show substV 0 e v by_ = none by simp [substV, okB, h1])
    rw [h1] at HE
    clear h1
    go_enter Tryd.func8, Tryd.ntmps8
    go_wp2_with fail
    refine (HE.out _).mono ?_
    rintro x w1 ⟨rfl, hb1⟩
    go_wp2_with fail
    exact bodyPost_ret (v := .tuple #[.string ⟨#[]⟩, .bool false]) (by simp [results, Tryd.results8, go_sem]) rfl ⟨by rw [H.out]; rfl, hb1⟩
  | true =>
    rw [h1] at HE
    by_cases h2 : 0 ≤ varNo v
    · rw [show decide (0 ≤ varNo v) = true by simpa using h2] at HN
      cases h3 : okS false 0 200 by_ with
      | false =>
        have H := Lib.hid (show substV 0 e v by_ = none by simp [substV, okB, h3])
        rw [h3] at HY
        clear h1 h2 h3
        go_enter Tryd.func8, Tryd.ntmps8
        go_wp2_with fail
        refine (HE.out _).mono ?_
        rintro x w1 ⟨rfl, hb1⟩
        go_wp2_with (first | (go_at_call 19; refine (HN.out _).mono ?_; rintro x w3 ⟨rfl, rfl⟩))
        refine (HY.out _).mono ?_
        rintro x w2 ⟨rfl, hb2⟩
        have hb3 := hb1.trans (hb2.mono hb1.size)
        go_wp2_with fail
        exact bodyPost_ret (v := .tuple #[.string ⟨#[]⟩, .bool false]) (by simp [results, Tryd.results8, go_sem]) rfl ⟨by rw [H.out]; rfl, hb3⟩
      | true =>
        rw [h3] at HY
        obtain ⟨n, c, hn, rfl, hc, hvn⟩ := var_is h2
        have hse := (okS_is h1).1
        have hsb := (okS_is h3).1
        have H := Lib.hid (show substV 0 e ⟨#[c]⟩ by_ = cutV (bs (subL e.data.toList c by_.data.toList)) by rw [substV, if_pos (by simp [okB, h1, h2, h3])]; rfl)
        have HS := Lib.hid (fun w hm => implSubst e by_ c w hse hsb hm)
        obtain ⟨o, ho⟩ : ∃ o, bs (subL e.data.toList c by_.data.toList) = o := ⟨_, rfl⟩
        rw [ho] at H HS
        clear h1 h2 h3 ho hse hsb
        go_enter Tryd.func8, Tryd.ntmps8
        go_wp2_with fail
        refine (HE.out _).mono ?_
        rintro x w1 ⟨rfl, hb1⟩
        go_wp2_with (first | (go_at_call 19; refine (HN.out _).mono ?_; rintro x w3 ⟨rfl, rfl⟩))
        refine (HY.out _).mono ?_
        rintro x w2 ⟨rfl, hb2⟩
        have hb3 := hb1.trans (hb2.mono hb1.size)
        have HM := Lib.hid (max_below HST.out hb3)
        go_wp2_with fail
        refine (HS.out _ HM.out).mono ?_
        rintro x w4 ⟨rfl, hb4⟩
        have HB4 := Lib.hid (hb3.trans (hb4.mono hb3.size))
        clear hb1 hb2 hb3 hb4
        by_cases hz : o.size ≤ 200
        · have HX := Lib.hid (H.out.trans (show cutV o = some o by simp [cutV, hz]))
          rw [show cutV o = some o by simp [cutV, hz]]
          simp only [strV]
          clear hz
          go_wp2_with fail
          exact bodyPost_ret (v := .tuple #[.string o, .bool true]) (by simp [results, Tryd.results8, go_sem]) rfl ⟨by rw [HX.out]; rfl, HB4.out⟩
        · have HX := Lib.hid (H.out.trans (show cutV o = none by simp [cutV, hz]))
          rw [show cutV o = none by simp [cutV, hz]]
          simp only [strV]
          clear hz
          go_wp2_with fail
          exact bodyPost_ret (v := .tuple #[.string ⟨#[]⟩, .bool false]) (by simp [results, Tryd.results8, go_sem]) rfl ⟨by rw [HX.out]; rfl, HB4.out⟩
    · have H := Lib.hid (show substV 0 e v by_ = none by simp [substV, okB, h2])
      rw [show decide (0 ≤ varNo v) = false by simp; omega] at HN
      clear h1 h2
      go_enter Tryd.func8, Tryd.ntmps8
      go_wp2_with fail
      refine (HE.out _).mono ?_
      rintro x w1 ⟨rfl, hb1⟩
      go_wp2_with (first | (go_at_call 19; refine (HN.out _).mono ?_; rintro x w3 ⟨rfl, rfl⟩))
      exact bodyPost_ret (v := .tuple #[.string ⟨#[]⟩, .bool false]) (by simp [results, Tryd.results8, go_sem]) rfl ⟨by rw [H.out]; rfl, hb1⟩
set_option maxRecDepth 100000 in
set_option maxHeartbeats 1000000 in
theorem specSubstTest (e v by_ : ByteArray) (w : World) (he : e.size ≤ 1048576) (hb : by_.size ≤ 1048576) : Calls Tryd.prog 9 #[.string e, .string v, .string by_] w fun x w' => x = .returned (strV (substV 1 e v by_)) ∧ Below w.heap.size w w' := by
  have HE := Lib.hid (fun w => specTestValid e w he)
  have HN := Lib.hid (fun w => specVar v w)
  have HY := Lib.hid (fun w => specExprValid by_ w hb)
  cases h1 : okS false 1 200 e with
  | false =>
    have H := Lib.hid (show substV 1 e v by_ = none by simp [substV, okB, h1])
    rw [h1] at HE
    clear h1
    go_enter Tryd.func9, Tryd.ntmps9
    go_wp2_with fail
    refine (HE.out _).mono ?_
    rintro x w1 ⟨rfl, hb1⟩
    go_wp2_with fail
    exact bodyPost_ret (v := .tuple #[.string ⟨#[]⟩, .bool false]) (by simp [results, Tryd.results9, go_sem]) rfl ⟨by rw [H.out]; rfl, hb1⟩
  | true =>
    rw [h1] at HE
    cases h3 : okS false 0 200 by_ with
    | false =>
      have H := Lib.hid (show substV 1 e v by_ = none by simp [substV, okB, h3])
      rw [h3] at HY
      clear h1 h3
      go_enter Tryd.func9, Tryd.ntmps9
      go_wp2_with fail
      refine (HE.out _).mono ?_
      rintro x w1 ⟨rfl, hb1⟩
      go_wp2_with fail
      refine (HY.out _).mono ?_
      rintro x w2 ⟨rfl, hb2⟩
      have hb3 := hb1.trans (hb2.mono hb1.size)
      go_wp2_with fail
      exact bodyPost_ret (v := .tuple #[.string ⟨#[]⟩, .bool false]) (by simp [results, Tryd.results9, go_sem]) rfl ⟨by rw [H.out]; rfl, hb3⟩
    | true =>
      rw [h3] at HY
      by_cases h2 : 0 ≤ varNo v
      · obtain ⟨n, c, hn, rfl, hc, hvn⟩ := var_is h2
        rw [hvn] at HN
        have hn0 : decide ((n : Int) < 0) = false := by simp
        have hse := (okS_is h1).1
        have hsb := (okS_is h3).1
        have H0 := Lib.hid (show substV 1 e ⟨#[c]⟩ by_ = cutV (bs (subL e.data.toList c by_.data.toList)) by rw [substV, if_pos (by simp [okB, h1, h2, h3])]; rfl)
        have HS := Lib.hid (fun w => specSubst e by_ c w hse hsb)
        obtain ⟨o, ho⟩ : ∃ o, bs (subL e.data.toList c by_.data.toList) = o := ⟨_, rfl⟩
        rw [ho] at H0 HS
        clear h1 h2 h3 ho hse hsb
        by_cases hz : o.size ≤ 200
        · have H := Lib.hid (H0.out.trans (show cutV o = some o by simp [cutV, hz]))
          have hz1 : (o.size : Int) ≤ 200 := by omega
          go_enter Tryd.func9, Tryd.ntmps9
          go_wp2_with fail
          refine (HE.out _).mono ?_
          rintro x w1 ⟨rfl, hb1⟩
          go_wp2_with fail
          refine (HY.out _).mono ?_
          rintro x w2 ⟨rfl, hb2⟩
          have hb3 := hb1.trans (hb2.mono hb1.size)
          go_wp2_with (first | (go_at_call 16; refine (HN.out _).mono ?_; rintro x w3 ⟨rfl, rfl⟩) | (go_at_call 17; refine (HS.out _).mono ?_; rintro x w4 ⟨rfl, rfl⟩))
          exact bodyPost_ret (v := .tuple #[.string o, .bool true]) (by simp [results, Tryd.results9, go_sem]) rfl ⟨by rw [H.out]; rfl, hb3⟩
        · have H := Lib.hid (H0.out.trans (show cutV o = none by simp [cutV, hz]))
          have hz1 : (200 : Int) < (o.size : Int) := by omega
          go_enter Tryd.func9, Tryd.ntmps9
          go_wp2_with fail
          refine (HE.out _).mono ?_
          rintro x w1 ⟨rfl, hb1⟩
          go_wp2_with fail
          refine (HY.out _).mono ?_
          rintro x w2 ⟨rfl, hb2⟩
          have hb3 := hb1.trans (hb2.mono hb1.size)
          go_wp2_with (first | (go_at_call 16; refine (HN.out _).mono ?_; rintro x w3 ⟨rfl, rfl⟩) | (go_at_call 17; refine (HS.out _).mono ?_; rintro x w4 ⟨rfl, rfl⟩))
          exact bodyPost_ret (v := .tuple #[.string ⟨#[]⟩, .bool false]) (by simp [results, Tryd.results9, go_sem]) rfl ⟨by rw [H.out]; rfl, hb3⟩
      · have H := Lib.hid (show substV 1 e v by_ = none by simp [substV, okB, h2])
        have hv : varNo v = -1 := by rcases var_cases v with ⟨e, _⟩ | ⟨e, _⟩ | ⟨e, _⟩ | ⟨e, _⟩ <;> omega
        rw [hv] at HN
        clear h1 h2 h3 hv
        go_enter Tryd.func9, Tryd.ntmps9
        go_wp2_with fail
        refine (HE.out _).mono ?_
        rintro x w1 ⟨rfl, hb1⟩
        go_wp2_with fail
        refine (HY.out _).mono ?_
        rintro x w2 ⟨rfl, hb2⟩
        have hb3 := hb1.trans (hb2.mono hb1.size)
        go_wp2_with (go_at_call 16; refine (HN.out _).mono ?_; rintro x w3 ⟨rfl, rfl⟩)
        exact bodyPost_ret (v := .tuple #[.string ⟨#[]⟩, .bool false]) (by simp [results, Tryd.results9, go_sem]) rfl ⟨by rw [H.out]; rfl, hb3⟩
set_option maxRecDepth 100000 in
set_option maxHeartbeats 1000000 in
theorem implSubstTest (e v by_ : ByteArray) (w : World) (he : e.size ≤ 1048576) (hb : by_.size ≤ 1048576) (hst : someMax w) : Calls Tryd.prog 10 #[.string e, .string v, .string by_] w fun x w' => x = .returned (strV (substV 1 e v by_)) ∧ Below w.heap.size w w' := by
  have HE := Lib.hid (fun w => implTestValid e w he)
  have HN := Lib.hid (fun w => implIsVar v w)
  have HY := Lib.hid (fun w => implExprValid by_ w hb)
  have HST := Lib.hid hst
  clear hst
  cases h1 : okS false 1 200 e with
  | false =>
    have H := Lib.hid (show substV 1 e v by_ = none by simp [substV, okB, h1])
    rw [h1] at HE
    clear h1
    go_enter Tryd.func10, Tryd.ntmps10
    go_wp2_with fail
    refine (HE.out _).mono ?_
    rintro x w1 ⟨rfl, hb1⟩
    go_wp2_with fail
    exact bodyPost_ret (v := .tuple #[.string ⟨#[]⟩, .bool false]) (by simp [results, Tryd.results10, go_sem]) rfl ⟨by rw [H.out]; rfl, hb1⟩
  | true =>
    rw [h1] at HE
    by_cases h2 : 0 ≤ varNo v
    · rw [show decide (0 ≤ varNo v) = true by simpa using h2] at HN
      cases h3 : okS false 0 200 by_ with
      | false =>
        have H := Lib.hid (show substV 1 e v by_ = none by simp [substV, okB, h3])
        rw [h3] at HY
        clear h1 h2 h3
        go_enter Tryd.func10, Tryd.ntmps10
        go_wp2_with fail
        refine (HE.out _).mono ?_
        rintro x w1 ⟨rfl, hb1⟩
        go_wp2_with (first | (go_at_call 19; refine (HN.out _).mono ?_; rintro x w3 ⟨rfl, rfl⟩))
        refine (HY.out _).mono ?_
        rintro x w2 ⟨rfl, hb2⟩
        have hb3 := hb1.trans (hb2.mono hb1.size)
        go_wp2_with fail
        exact bodyPost_ret (v := .tuple #[.string ⟨#[]⟩, .bool false]) (by simp [results, Tryd.results10, go_sem]) rfl ⟨by rw [H.out]; rfl, hb3⟩
      | true =>
        rw [h3] at HY
        obtain ⟨n, c, hn, rfl, hc, hvn⟩ := var_is h2
        have hse := (okS_is h1).1
        have hsb := (okS_is h3).1
        have H := Lib.hid (show substV 1 e ⟨#[c]⟩ by_ = cutV (bs (subL e.data.toList c by_.data.toList)) by rw [substV, if_pos (by simp [okB, h1, h2, h3])]; rfl)
        have HS := Lib.hid (fun w hm => implSubst e by_ c w hse hsb hm)
        obtain ⟨o, ho⟩ : ∃ o, bs (subL e.data.toList c by_.data.toList) = o := ⟨_, rfl⟩
        rw [ho] at H HS
        clear h1 h2 h3 ho hse hsb
        go_enter Tryd.func10, Tryd.ntmps10
        go_wp2_with fail
        refine (HE.out _).mono ?_
        rintro x w1 ⟨rfl, hb1⟩
        go_wp2_with (first | (go_at_call 19; refine (HN.out _).mono ?_; rintro x w3 ⟨rfl, rfl⟩))
        refine (HY.out _).mono ?_
        rintro x w2 ⟨rfl, hb2⟩
        have hb3 := hb1.trans (hb2.mono hb1.size)
        have HM := Lib.hid (max_below HST.out hb3)
        go_wp2_with fail
        refine (HS.out _ HM.out).mono ?_
        rintro x w4 ⟨rfl, hb4⟩
        have HB4 := Lib.hid (hb3.trans (hb4.mono hb3.size))
        clear hb1 hb2 hb3 hb4
        by_cases hz : o.size ≤ 200
        · have HX := Lib.hid (H.out.trans (show cutV o = some o by simp [cutV, hz]))
          rw [show cutV o = some o by simp [cutV, hz]]
          simp only [strV]
          clear hz
          go_wp2_with fail
          exact bodyPost_ret (v := .tuple #[.string o, .bool true]) (by simp [results, Tryd.results10, go_sem]) rfl ⟨by rw [HX.out]; rfl, HB4.out⟩
        · have HX := Lib.hid (H.out.trans (show cutV o = none by simp [cutV, hz]))
          rw [show cutV o = none by simp [cutV, hz]]
          simp only [strV]
          clear hz
          go_wp2_with fail
          exact bodyPost_ret (v := .tuple #[.string ⟨#[]⟩, .bool false]) (by simp [results, Tryd.results10, go_sem]) rfl ⟨by rw [HX.out]; rfl, HB4.out⟩
    · have H := Lib.hid (show substV 1 e v by_ = none by simp [substV, okB, h2])
      rw [show decide (0 ≤ varNo v) = false by simp; omega] at HN
      clear h1 h2
      go_enter Tryd.func10, Tryd.ntmps10
      go_wp2_with fail
      refine (HE.out _).mono ?_
      rintro x w1 ⟨rfl, hb1⟩
      go_wp2_with (first | (go_at_call 19; refine (HN.out _).mono ?_; rintro x w3 ⟨rfl, rfl⟩))
      exact bodyPost_ret (v := .tuple #[.string ⟨#[]⟩, .bool false]) (by simp [results, Tryd.results10, go_sem]) rfl ⟨by rw [H.out]; rfl, hb1⟩
set_option maxRecDepth 100000 in
set_option maxHeartbeats 1000000 in
theorem lawSubstExpr (e v by_ : ByteArray) (w : World) (he : e.size ≤ maxLen) (hv : v.size ≤ maxLen) (hby_ : by_.size ≤ maxLen) (hst : someMax w) :
    Calls Tryd.prog 3 #[.string e, .string v, .string by_] w fun e' w' => e' = .returned (.bool true) ∧ Below w.heap.size w w' := by
  by_cases bige : e.size ≤ 1048576
  case neg =>
    clear hst
    go_enter Tryd.func3, Tryd.ntmps3
    go_wp2
    go_ret
    exact ⟨rfl, Below.refl _ _⟩
  by_cases bigv : v.size ≤ 1048576
  case neg =>
    clear hst
    go_enter Tryd.func3, Tryd.ntmps3
    go_wp2
    go_ret
    exact ⟨rfl, Below.refl _ _⟩
  by_cases bigby_ : by_.size ≤ 1048576
  case neg =>
    clear hst
    go_enter Tryd.func3, Tryd.ntmps3
    go_wp2
    go_ret
    exact ⟨rfl, Below.refl _ _⟩
  have HS := Lib.hid (fun w => specSubstExpr e v by_ w bige bigby_)
  have HI := Lib.hid (fun w (h : someMax w) => implSubstExpr e v by_ w bige bigby_ h)
  have HX := Lib.hid hst
  clear hst
  cases hr : substV 0 e v by_
  all_goals
    rw [hr] at HS HI
    clear hr
    simp only [strV] at HS HI
    go_enter Tryd.func3, Tryd.ntmps3
    go_wp2_with (first | (go_at_call 7; refine (HS.out _).mono ?_; rintro x w1 ⟨rfl, hb1⟩) | (go_at_call 8; refine (HI.out _ (max_below HX.out hb1)).mono ?_; rintro x w2 ⟨rfl, hb2⟩))
    go_ret
    exact ⟨by simp, hb1.trans (hb2.mono hb1.size)⟩
set_option maxRecDepth 100000 in
set_option maxHeartbeats 1000000 in
theorem lawSubstTest (e v by_ : ByteArray) (w : World) (he : e.size ≤ maxLen) (hv : v.size ≤ maxLen) (hby_ : by_.size ≤ maxLen) (hst : someMax w) :
    Calls Tryd.prog 4 #[.string e, .string v, .string by_] w fun e' w' => e' = .returned (.bool true) ∧ Below w.heap.size w w' := by
  by_cases bige : e.size ≤ 1048576
  case neg =>
    clear hst
    go_enter Tryd.func4, Tryd.ntmps4
    go_wp2
    go_ret
    exact ⟨rfl, Below.refl _ _⟩
  by_cases bigv : v.size ≤ 1048576
  case neg =>
    clear hst
    go_enter Tryd.func4, Tryd.ntmps4
    go_wp2
    go_ret
    exact ⟨rfl, Below.refl _ _⟩
  by_cases bigby_ : by_.size ≤ 1048576
  case neg =>
    clear hst
    go_enter Tryd.func4, Tryd.ntmps4
    go_wp2
    go_ret
    exact ⟨rfl, Below.refl _ _⟩
  have HS := Lib.hid (fun w => specSubstTest e v by_ w bige bigby_)
  have HI := Lib.hid (fun w (h : someMax w) => implSubstTest e v by_ w bige bigby_ h)
  have HX := Lib.hid hst
  clear hst
  cases hr : substV 1 e v by_
  all_goals
    rw [hr] at HS HI
    clear hr
    simp only [strV] at HS HI
    go_enter Tryd.func4, Tryd.ntmps4
    go_wp2_with (first | (go_at_call 9; refine (HS.out _).mono ?_; rintro x w1 ⟨rfl, hb1⟩) | (go_at_call 10; refine (HI.out _ (max_below HX.out hb1)).mono ?_; rintro x w2 ⟨rfl, hb2⟩))
    go_ret
    exact ⟨by simp, hb1.trans (hb2.mono hb1.size)⟩
end Go.Proofs.YtkajfjbdlkkieaaDoor.Sb
