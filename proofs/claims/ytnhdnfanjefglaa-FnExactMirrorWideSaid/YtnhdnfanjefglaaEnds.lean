/- Contracts: where the expression, the test, the program that begins at an index ends (the reference's). -/
import Derived.Test.YtnhdnfanjefglaaFind
import Derived.Test.YtnhdnfanjefglaaHeap
import Derived.Lib.QuietBelow
import Derived.Deep.QuietTactic
import Derived.BigQuiet
namespace Go.Proofs.Ytnhdnfanjefglaa.Ed
open Go.RowKit Go.Sort Go.Proofs.Ytnhdnfanjefglaa.Bi Go.Proofs.Ytnhdnfanjefglaa.Fi Go.Proofs.Ytnhdnfanjefglaa.Pl

theorem of_same {P : Program} {f : FuncId} {args : Array Value} {W : World} {v : Value} (h : Calls P f args W fun e w' => e = .returned v ∧ W = w') : Calls P f args W fun e w' => e = .returned v ∧ Below W.heap.size W w' :=
  h.mono fun _ _ ⟨he, hw⟩ => ⟨he, by rw [← hw]; exact Below.refl _ _⟩
theorem as_value {P : Program} {f : FuncId} {args : Array Value} {W : World} {v v' : Value} (e : v = v') (h : Calls P f args W fun e w' => e = .returned v ∧ Below W.heap.size W w') : Calls P f args W fun e w' => e = .returned v' ∧ Below W.heap.size W w' := by rw [← e]; exact h
theorem grew {w w1 w2 : World} (h : Below w.heap.size w w1) (h' : Below w1.heap.size w1 w2) : Below w.heap.size w w2 := h.trans (h'.mono h.size)
theorem grewA {w w1 : World} (h : Below w.heap.size w w1) (o : Obj) : Below w.heap.size w (w1.alloc o) := h.alloc h.size o

/-- The letters of variables, as a text. -/
def names (wide : Bool) : ByteArray := if wide then ⟨#[120, 121, 122, 88, 89, 90]⟩ else ⟨#[120, 121, 122]⟩
theorem specNames (wide : Bool) (w : World) : Calls Try.prog 16 #[.bool wide] w fun e w' => e = .returned (.string (names wide)) ∧ w = w' := by
  cases wide
  all_goals
    go_enter Try.func16, Try.ntmps16
    go_wp2
    go_ret
    exact ⟨rfl, rfl⟩
theorem idx_not {l : List UInt8} {c : UInt8} (h : l.count c = 0) : Lib.indexByte l c = -1 := (index_count l c).2 h
theorem idx_in {l : List UInt8} {c : UInt8} (h : ¬ l.count c = 0) : 0 ≤ Lib.indexByte l c := by
  rcases index_range l c with h1 | h1
  · exact absurd ((index_count l c).1 h1) h
  · exact h1.1
theorem byte_eq {c : UInt8} {n : Nat} (hn : n < 256) (h : c.toNat = n) : c = UInt8.ofNat n := UInt8.toNat_inj.1 (by rw [h, UInt8.toNat_ofNat']; omega)
theorem names_var (wide : Bool) (c : UInt8) : (vrB wide c.toNat = true → 0 ≤ Lib.indexByte (names wide).data.toList c) ∧ (vrB wide c.toNat = false → Lib.indexByte (names wide).data.toList c = -1) := by
  constructor
  · intro h
    apply idx_in
    cases wide with
    | false =>
      simp only [vrB, Bool.false_and, Bool.or_false, Bool.and_eq_true, decide_eq_true_eq] at h
      have : c.toNat = 120 ∨ c.toNat = 121 ∨ c.toNat = 122 := by omega
      rcases this with h | h | h <;> (rw [byte_eq (by decide) h]; decide)
    | true =>
      simp only [vrB, Bool.true_and, Bool.or_eq_true, Bool.and_eq_true, decide_eq_true_eq] at h
      have : c.toNat = 120 ∨ c.toNat = 121 ∨ c.toNat = 122 ∨ c.toNat = 88 ∨ c.toNat = 89 ∨ c.toNat = 90 := by omega
      rcases this with h | h | h | h | h | h <;> (rw [byte_eq (by decide) h]; decide)
  · intro h
    apply idx_not
    rw [List.count_eq_zero]
    intro hm
    cases wide with
    | false =>
      simp [names] at hm
      rcases hm with h' | h' | h' <;> (subst h'; exact absurd h (by decide))
    | true =>
      simp [names] at hm
      rcases hm with h' | h' | h' | h' | h' | h' <;> (subst h'; exact absurd h (by decide))
theorem digs_dig (c : UInt8) : (dgB c.toNat = true → 0 ≤ Lib.indexByte [48, 49, 50] c) ∧ (dgB c.toNat = false → Lib.indexByte [48, 49, 50] c = -1) := by
  constructor
  · intro h
    apply idx_in
    simp only [dgB, Bool.and_eq_true, decide_eq_true_eq] at h
    have : c.toNat = 48 ∨ c.toNat = 49 ∨ c.toNat = 50 := by omega
    rcases this with h | h | h <;> (rw [byte_eq (by decide) h]; decide)
  · intro h
    apply idx_not
    rw [List.count_eq_zero]
    intro hm
    simp at hm
    rcases hm with h' | h' | h' <;> (subst h'; exact absurd h (by decide))
theorem ops_op (c : UInt8) : ((c.toNat = 43 ∨ c.toNat = 45 ∨ c.toNat = 42) → 0 ≤ Lib.indexByte [43, 45, 42] c) ∧ (¬ (c.toNat = 43 ∨ c.toNat = 45 ∨ c.toNat = 42) → Lib.indexByte [43, 45, 42] c = -1) := by
  constructor
  · intro h
    apply idx_in
    rcases h with h | h | h <;> (rw [byte_eq (by decide) h]; decide)
  · intro h
    apply idx_not
    rw [List.count_eq_zero]
    intro hm
    simp at hm
    rcases hm with h' | h' | h' <;> (subst h'; exact h (by decide))

/-! ### The byte at an index, told by sort -/
theorem at_byte (s : ByteArray) {k : Nat} (h : k < s.size) : s.data.toList[k]? = some s[k] := byte_at s k h
theorem len_eq (s : ByteArray) : s.data.toList.length = s.size := by simp
theorem ends_leaf {wide : Bool} {s : Nat} {b : ByteArray} {k : Nat} (h : k < b.size) (hw : wants wide s b[k].toNat = some []) : ends wide [s] b.data.toList k = (k : Int) + 1 := by
  rw [ends_step wide s _ k _ (at_byte b h), hw]
  simp only
  have := ends_nil wide b.data.toList (k + 1) (by rw [len_eq]; omega)
  simpa using this
theorem ends_bad {wide : Bool} {s : Nat} {b : ByteArray} {k : Nat} (h : k < b.size) (hw : wants wide s b[k].toNat = none) : ends wide [s] b.data.toList k = -1 := by
  rw [ends_step wide s _ k _ (at_byte b h), hw]
theorem ends_one {wide : Bool} {s x : Nat} {b : ByteArray} {k : Nat} (h : k < b.size) (hw : wants wide s b[k].toNat = some [x]) : ends wide [s] b.data.toList k = ends wide [x] b.data.toList ((k : Int) + 1) := by
  rw [ends_step wide s _ k _ (at_byte b h), hw]
theorem ends_two {wide : Bool} {s x y : Nat} {b : ByteArray} {k : Nat} (h : k < b.size) (hw : wants wide s b[k].toNat = some [x, y]) : ends wide [s] b.data.toList k = ends wide [y] b.data.toList (ends wide [x] b.data.toList ((k : Int) + 1)) := by
  rw [ends_step wide s _ k _ (at_byte b h), hw]
  simp only
  rw [ends_cons]
theorem ends_three {wide : Bool} {s x y z : Nat} {b : ByteArray} {k : Nat} (h : k < b.size) (hw : wants wide s b[k].toNat = some [x, y, z]) :
    ends wide [s] b.data.toList k = ends wide [z] b.data.toList (ends wide [y] b.data.toList (ends wide [x] b.data.toList ((k : Int) + 1))) := by
  rw [ends_step wide s _ k _ (at_byte b h), hw]
  simp only
  rw [ends_cons, ends_cons]
theorem ends_out {wide : Bool} {s : Nat} {b : ByteArray} {a : Int} (h : a < 0 ∨ a = b.size) : ends wide [s] b.data.toList a = -1 := by
  rcases h with h | h
  · exact ends_neg h
  · rw [h, ← len_eq]; exact ends_past _ _ _ _
theorem ends_fits (wide : Bool) (s : Nat) (b : ByteArray) {a : Int} (ha : a ≤ b.size) : ends wide [s] b.data.toList a = -1 ∨ (a ≤ ends wide [s] b.data.toList a ∧ 0 ≤ a ∧ ends wide [s] b.data.toList a ≤ b.size) := by
  have := ends_range wide [s] b.data.toList a (by rw [len_eq]; exact ha)
  rw [len_eq] at this
  exact this

theorem libFind (t : ByteArray) (l : List UInt8) (hl : t = ⟨l.toArray⟩) (c : UInt8) (w : World) (hs : t.size ≤ maxLen) : Calls Try.prog 15 #[.string t, .int .u8 (c.toNat : Int)] w fun e w' => e = .returned (.int .i64 (Lib.indexByte l c)) ∧ w = w' := by
  subst hl
  exact specFind _ c w hs

set_option maxHeartbeats 4000000 in
/-- Where the expression that begins at an index ends, or -1. -/
theorem specExpr (s : ByteArray) (hs : s.size ≤ 1048576) (wide : Bool) (n : Nat) : ∀ (a : Int) (w : World), (a < 0 ∨ (s.size : Int) - a ≤ n) → a ≤ s.size →
    Calls Try.prog 17 #[.string s, .int .i64 a, .bool wide] w fun e w' => e = .returned (.int .i64 (ends wide [0] s.data.toList a)) ∧ Below w.heap.size w w' := by
  induction n with
  | zero =>
    intro a w hn ha
    have HE := Lib.hid (ends_out (wide := wide) (s := 0) (b := s) (a := a) (by omega))
    rcases (show a < 0 ∨ a = s.size by omega) with h | rfl
    · go_enter Try.func17, Try.ntmps17
      go_wp2
      go_ret
      exact ⟨by rw [HE.out]; rfl, Below.refl _ _⟩
    · go_enter Try.func17, Try.ntmps17
      go_wp2
      go_ret
      exact ⟨by rw [HE.out]; rfl, Below.refl _ _⟩
  | succ n ih =>
    intro a w hn ha
    have IH := Lib.hid ih; clear ih
    by_cases h0 : a < 0
    · have HE := Lib.hid (ends_out (wide := wide) (s := 0) (b := s) (a := a) (.inl h0))
      go_enter Try.func17, Try.ntmps17
      go_wp2
      go_ret
      exact ⟨by rw [HE.out]; rfl, Below.refl _ _⟩
    · obtain ⟨k, rfl⟩ := Int.eq_ofNat_of_zero_le (show 0 ≤ a by omega)
      by_cases hk : k = s.size
      · have HE := Lib.hid (ends_out (wide := wide) (s := 0) (b := s) (a := (k : Int)) (.inr (by omega)))
        have h1 : ¬ (k : Int) < s.size := by omega
        have h2 : (s.size : Int) ≤ k := by omega
        clear hk
        go_enter Try.func17, Try.ntmps17
        go_wp2
        go_ret
        exact ⟨by rw [HE.out]; rfl, Below.refl _ _⟩
      · have hlt : k < s.size := by omega
        have hlt' : (k : Int) < (s.size : Int) := by omega
        clear hk ha
        obtain ⟨iv, hiv⟩ : ∃ i, Lib.indexByte (names wide).data.toList s[k] = i := ⟨_, rfl⟩
        obtain ⟨id, hid⟩ : ∃ i, Lib.indexByte [48, 49, 50] s[k] = i := ⟨_, rfl⟩
        obtain ⟨io, hio⟩ : ∃ i, Lib.indexByte [43, 45, 42] s[k] = i := ⟨_, rfl⟩
        have HIV := Lib.hid hiv
        have HID := Lib.hid hid
        have HIO := Lib.hid hio
        have hv := names_var wide s[k]
        have hd := digs_dig s[k]
        have ho := ops_op s[k]
        rw [hiv] at hv; rw [hid] at hd; rw [hio] at ho
        clear hiv hid hio
        cases cv : vrB wide s[k].toNat with
        | true =>
          have hv' := hv.1 cv
          have HE := Lib.hid (ends_leaf (wide := wide) (s := 0) hlt (by simp [wants, cv]))
          clear hv hd ho cv
          go_enter Try.func17, Try.ntmps17
          go_wp2
          refine wp_region_quiet_below (by kernel_rfl) (by kernel_rfl) ?_
          repeat (go_big_quiet_step (first | (go_at_call 16; exact Calls.regrown_of (of_same (specNames _ _))) | (go_at_call 15; exact Calls.regrown_of (as_value (by first | rw [HIV.out] | rw [HID.out]) (of_same (specFind _ s[k] _ (by cases wide <;> decide)))) )))
          refine wpQuiet_nil ?_
          intro _ hw'
          obtain ⟨⟨dq, osq⟩, hw''⟩ := hw'
          subst hw''
          go_wp2
          go_ret
          exact ⟨by rw [HE.out]; rfl, below_regrown _ _ _⟩
        | false =>
          have hv' := hv.2 cv
          cases cd : dgB s[k].toNat with
          | true =>
            have hd' := hd.1 cd
            have HE := Lib.hid (ends_leaf (wide := wide) (s := 0) hlt (by simp [wants, cv, cd]))
            clear hv hd ho cv cd
            subst hv'
            go_enter Try.func17, Try.ntmps17
            go_wp2
            refine wp_region_quiet_below (by kernel_rfl) (by kernel_rfl) ?_
            repeat (go_big_quiet_step (first | (go_at_call 16; exact Calls.regrown_of (of_same (specNames _ _))) | (go_at_call 15; exact Calls.regrown_of (as_value (by first | rw [HIV.out] | rw [HID.out]) (of_same (specFind _ s[k] _ (by cases wide <;> decide)))) )))
            refine wpQuiet_nil ?_
            intro _ hw'
            obtain ⟨⟨dq, osq⟩, hw''⟩ := hw'
            subst hw''
            go_wp2
            go_ret
            exact ⟨by rw [HE.out]; rfl, below_regrown _ _ _⟩
          | false =>
            have hd' := hd.2 cd
            by_cases co : s[k].toNat = 43 ∨ s[k].toNat = 45 ∨ s[k].toNat = 42
            · have ho' := ho.1 co
              have HE := Lib.hid (ends_two (wide := wide) (s := 0) (x := 0) (y := 0) hlt (by simp [wants, cv, cd, co]))
              obtain ⟨r1, hr1⟩ : ∃ r, ends wide [0] s.data.toList ((k : Int) + 1) = r := ⟨_, rfl⟩
              have hf := ends_fits wide 0 s (a := (k : Int) + 1) (by omega)
              rw [hr1] at hf
              have HR1 := Lib.hid hr1
              have hn1 : (k : Int) + 1 < 0 ∨ (s.size : Int) - ((k : Int) + 1) ≤ n := by omega
              have hn2 : r1 < 0 ∨ (s.size : Int) - r1 ≤ n := by omega
              have hb2 : r1 ≤ s.size := by omega
              have HN := Lib.hid (And.intro hn1 hn2)
              clear hv hd ho cv cd co hr1 hf hn1 hn2 hn
              subst hv' hd'
              go_enter Try.func17, Try.ntmps17
              go_wp2
              refine wp_region_quiet_below (by kernel_rfl) (by kernel_rfl) ?_
              repeat (go_big_quiet_step (first | (go_at_call 16; exact Calls.regrown_of (of_same (specNames _ _))) | (go_at_call 15; exact Calls.regrown_of (as_value (by first | rw [HIV.out] | rw [HID.out]) (of_same (specFind _ s[k] _ (by cases wide <;> decide)))) )))
              refine wpQuiet_nil ?_
              intro _ hw'
              obtain ⟨⟨dq, osq⟩, hw''⟩ := hw'
              subst hw''
              have hbq := below_regrown w dq osq
              generalize grow (redrawn w dq) osq = W1 at *
              go_wp2_with fail
              refine (specFind _ s[k] _ (by decide)).mono ?_
              rintro e w' ⟨rfl, rfl⟩
              rw [HIO.out]
              go_wp2_with fail
              refine (IH.out ((k : Int) + 1) _ HN.out.1 (by omega)).mono ?_
              rintro e w2 ⟨rfl, hb3⟩
              rw [HR1.out]
              go_wp2_with fail
              refine (IH.out r1 _ HN.out.2 hb2).mono ?_
              rintro e w3 ⟨rfl, hb4⟩
              go_wp2_with fail
              go_ret
              exact ⟨by rw [HE.out, HR1.out]; rfl, grew (grew hbq hb3) hb4⟩
            · have ho' := ho.2 co
              have HE := Lib.hid (ends_bad (wide := wide) (s := 0) hlt (by simp [wants, cv, cd, co]))
              clear hv hd ho cv cd co
              subst hv' hd' ho'
              go_enter Try.func17, Try.ntmps17
              go_wp2
              refine wp_region_quiet_below (by kernel_rfl) (by kernel_rfl) ?_
              repeat (go_big_quiet_step (first | (go_at_call 16; exact Calls.regrown_of (of_same (specNames _ _))) | (go_at_call 15; exact Calls.regrown_of (as_value (by first | rw [HIV.out] | rw [HID.out]) (of_same (specFind _ s[k] _ (by cases wide <;> decide)))) )))
              refine wpQuiet_nil ?_
              intro _ hw'
              obtain ⟨⟨dq, osq⟩, hw''⟩ := hw'
              subst hw''
              have hbq := below_regrown w dq osq
              generalize grow (redrawn w dq) osq = W1 at *
              go_wp2_with (go_at_call 15; refine (specFind _ s[k] _ (by decide)).mono ?_; rintro e w' ⟨rfl, rfl⟩; rw [HIO.out])
              go_ret
              exact ⟨by rw [HE.out]; rfl, hbq⟩
theorem specExprAny (s : ByteArray) (hs : s.size ≤ 1048576) (wide : Bool) (a : Int) (w : World) (ha : a ≤ s.size) :
    Calls Try.prog 17 #[.string s, .int .i64 a, .bool wide] w fun e w' => e = .returned (.int .i64 (ends wide [0] s.data.toList a)) ∧ Below w.heap.size w w' :=
  specExpr s hs wide s.size a w (by omega) ha

set_option maxHeartbeats 8000000 in
/-- Where the text of this sort that begins at an index ends, or -1. -/
theorem specTest (s : ByteArray) (hs : s.size ≤ 1048576) (wide : Bool) (n : Nat) : ∀ (a : Int) (w : World), (a < 0 ∨ (s.size : Int) - a ≤ n) → a ≤ s.size →
    Calls Try.prog 18 #[.string s, .int .i64 a, .bool wide] w fun e w' => e = .returned (.int .i64 (ends wide [1] s.data.toList a)) ∧ Below w.heap.size w w' := by
  induction n with
  | zero =>
    intro a w hn ha
    have HE := Lib.hid (ends_out (wide := wide) (s := 1) (b := s) (a := a) (by omega))
    rcases (show a < 0 ∨ a = s.size by omega) with h | rfl
    · go_enter Try.func18, Try.ntmps18
      go_wp2
      go_ret
      exact ⟨by rw [HE.out]; rfl, Below.refl _ _⟩
    · go_enter Try.func18, Try.ntmps18
      go_wp2
      go_ret
      exact ⟨by rw [HE.out]; rfl, Below.refl _ _⟩
  | succ n ih =>
    intro a w hn ha
    have IH := Lib.hid ih; clear ih
    by_cases h0 : a < 0
    · have HE := Lib.hid (ends_out (wide := wide) (s := 1) (b := s) (a := a) (.inl h0))
      go_enter Try.func18, Try.ntmps18
      go_wp2
      go_ret
      exact ⟨by rw [HE.out]; rfl, Below.refl _ _⟩
    · obtain ⟨k, rfl⟩ := Int.eq_ofNat_of_zero_le (show 0 ≤ a by omega)
      by_cases hk : k = s.size
      · have HE := Lib.hid (ends_out (wide := wide) (s := 1) (b := s) (a := (k : Int)) (.inr (by omega)))
        have h1 : ¬ (k : Int) < s.size := by omega
        have h2 : (s.size : Int) ≤ k := by omega
        clear hk
        go_enter Try.func18, Try.ntmps18
        go_wp2
        go_ret
        exact ⟨by rw [HE.out]; rfl, Below.refl _ _⟩
      · have hlt : k < s.size := by omega
        have hlt' : (k : Int) < (s.size : Int) := by omega
        clear hk ha
        rcases (show s[k].toNat = 116 ∨ s[k].toNat = 102 ∨ s[k].toNat = 61 ∨ s[k].toNat = 60 ∨ s[k].toNat = 33 ∨ s[k].toNat = 38 ∨ s[k].toNat = 124 ∨ (¬ s[k].toNat = 116 ∧ ¬ s[k].toNat = 102 ∧ ¬ s[k].toNat = 61 ∧ ¬ s[k].toNat = 60 ∧ ¬ s[k].toNat = 33 ∧ ¬ s[k].toNat = 38 ∧ ¬ s[k].toNat = 124) by omega) with hb | hb | hb | hb | hb | hb | hb | hb
        · have HE := Lib.hid (ends_leaf (wide := wide) (s := 1) hlt (show wants wide 1 s[k].toNat = some [] by rw [hb]; simp [wants]))
          have g116 : ((s[k].toNat : Int) == 116) = true := by simp; omega
          have g102 : ((s[k].toNat : Int) == 102) = false := by simp; omega
          have g61 : ((s[k].toNat : Int) == 61) = false := by simp; omega
          have g60 : ((s[k].toNat : Int) == 60) = false := by simp; omega
          have g33 : ((s[k].toNat : Int) == 33) = false := by simp; omega
          have g38 : ((s[k].toNat : Int) == 38) = false := by simp; omega
          have g124 : ((s[k].toNat : Int) == 124) = false := by simp; omega
          clear hb
          go_enter Try.func18, Try.ntmps18
          go_wp2
          go_ret
          exact ⟨by rw [HE.out]; rfl, Below.refl _ _⟩
        · have HE := Lib.hid (ends_leaf (wide := wide) (s := 1) hlt (show wants wide 1 s[k].toNat = some [] by rw [hb]; simp [wants]))
          have g116 : ((s[k].toNat : Int) == 116) = false := by simp; omega
          have g102 : ((s[k].toNat : Int) == 102) = true := by simp; omega
          have g61 : ((s[k].toNat : Int) == 61) = false := by simp; omega
          have g60 : ((s[k].toNat : Int) == 60) = false := by simp; omega
          have g33 : ((s[k].toNat : Int) == 33) = false := by simp; omega
          have g38 : ((s[k].toNat : Int) == 38) = false := by simp; omega
          have g124 : ((s[k].toNat : Int) == 124) = false := by simp; omega
          clear hb
          go_enter Try.func18, Try.ntmps18
          go_wp2
          go_ret
          exact ⟨by rw [HE.out]; rfl, Below.refl _ _⟩
        · have HE := Lib.hid (ends_two (wide := wide) (s := 1) hlt (show wants wide 1 s[k].toNat = some [0, 0] by rw [hb]; simp [wants]))
          have g116 : ((s[k].toNat : Int) == 116) = false := by simp; omega
          have g102 : ((s[k].toNat : Int) == 102) = false := by simp; omega
          have g61 : ((s[k].toNat : Int) == 61) = true := by simp; omega
          have g60 : ((s[k].toNat : Int) == 60) = false := by simp; omega
          have g33 : ((s[k].toNat : Int) == 33) = false := by simp; omega
          have g38 : ((s[k].toNat : Int) == 38) = false := by simp; omega
          have g124 : ((s[k].toNat : Int) == 124) = false := by simp; omega
          obtain ⟨r1, hr1⟩ : ∃ r, ends wide [0] s.data.toList ((k : Int) + 1) = r := ⟨_, rfl⟩
          have hf1 := ends_fits wide 0 s (a := ((k : Int) + 1)) (by omega)
          rw [hr1] at hf1
          have HR1 := Lib.hid hr1
          have hn0 : (k : Int) + 1 < 0 ∨ (s.size : Int) - ((k : Int) + 1) ≤ n := by omega
          have hn1 : r1 < 0 ∨ (s.size : Int) - r1 ≤ n := by omega
          have hb1 : r1 ≤ s.size := by omega
          have HN0 := Lib.hid hn0
          have HN1 := Lib.hid hn1
          clear hb hn hn0 hn1 hr1 hf1
          go_enter Try.func18, Try.ntmps18
          go_wp2_with fail
          refine (specExprAny s hs wide ((k : Int) + 1) _ (by omega)).mono ?_
          rintro e w1 ⟨rfl, hw1⟩
          rw [HR1.out]
          go_wp2_with fail
          refine (specExprAny s hs wide r1 _ hb1).mono ?_
          rintro e w2 ⟨rfl, hw2⟩
          go_wp2_with fail
          go_ret
          exact ⟨by rw [HE.out, HR1.out]; rfl, grew (hw1) hw2⟩
        · have HE := Lib.hid (ends_two (wide := wide) (s := 1) hlt (show wants wide 1 s[k].toNat = some [0, 0] by rw [hb]; simp [wants]))
          have g116 : ((s[k].toNat : Int) == 116) = false := by simp; omega
          have g102 : ((s[k].toNat : Int) == 102) = false := by simp; omega
          have g61 : ((s[k].toNat : Int) == 61) = false := by simp; omega
          have g60 : ((s[k].toNat : Int) == 60) = true := by simp; omega
          have g33 : ((s[k].toNat : Int) == 33) = false := by simp; omega
          have g38 : ((s[k].toNat : Int) == 38) = false := by simp; omega
          have g124 : ((s[k].toNat : Int) == 124) = false := by simp; omega
          obtain ⟨r1, hr1⟩ : ∃ r, ends wide [0] s.data.toList ((k : Int) + 1) = r := ⟨_, rfl⟩
          have hf1 := ends_fits wide 0 s (a := ((k : Int) + 1)) (by omega)
          rw [hr1] at hf1
          have HR1 := Lib.hid hr1
          have hn0 : (k : Int) + 1 < 0 ∨ (s.size : Int) - ((k : Int) + 1) ≤ n := by omega
          have hn1 : r1 < 0 ∨ (s.size : Int) - r1 ≤ n := by omega
          have hb1 : r1 ≤ s.size := by omega
          have HN0 := Lib.hid hn0
          have HN1 := Lib.hid hn1
          clear hb hn hn0 hn1 hr1 hf1
          go_enter Try.func18, Try.ntmps18
          go_wp2_with fail
          refine (specExprAny s hs wide ((k : Int) + 1) _ (by omega)).mono ?_
          rintro e w1 ⟨rfl, hw1⟩
          rw [HR1.out]
          go_wp2_with fail
          refine (specExprAny s hs wide r1 _ hb1).mono ?_
          rintro e w2 ⟨rfl, hw2⟩
          go_wp2_with fail
          go_ret
          exact ⟨by rw [HE.out, HR1.out]; rfl, grew (hw1) hw2⟩
        · have HE := Lib.hid (ends_one (wide := wide) (s := 1) hlt (show wants wide 1 s[k].toNat = some [1] by rw [hb]; simp [wants]))
          have g116 : ((s[k].toNat : Int) == 116) = false := by simp; omega
          have g102 : ((s[k].toNat : Int) == 102) = false := by simp; omega
          have g61 : ((s[k].toNat : Int) == 61) = false := by simp; omega
          have g60 : ((s[k].toNat : Int) == 60) = false := by simp; omega
          have g33 : ((s[k].toNat : Int) == 33) = true := by simp; omega
          have g38 : ((s[k].toNat : Int) == 38) = false := by simp; omega
          have g124 : ((s[k].toNat : Int) == 124) = false := by simp; omega
          have hn0 : (k : Int) + 1 < 0 ∨ (s.size : Int) - ((k : Int) + 1) ≤ n := by omega
          have HN0 := Lib.hid hn0
          clear hb hn hn0 
          go_enter Try.func18, Try.ntmps18
          go_wp2_with fail
          refine (IH.out ((k : Int) + 1) _ HN0.out (by omega)).mono ?_
          rintro e w1 ⟨rfl, hw1⟩
          go_wp2_with fail
          go_ret
          exact ⟨by rw [HE.out]; rfl, hw1⟩
        · have HE := Lib.hid (ends_two (wide := wide) (s := 1) hlt (show wants wide 1 s[k].toNat = some [1, 1] by rw [hb]; simp [wants]))
          have g116 : ((s[k].toNat : Int) == 116) = false := by simp; omega
          have g102 : ((s[k].toNat : Int) == 102) = false := by simp; omega
          have g61 : ((s[k].toNat : Int) == 61) = false := by simp; omega
          have g60 : ((s[k].toNat : Int) == 60) = false := by simp; omega
          have g33 : ((s[k].toNat : Int) == 33) = false := by simp; omega
          have g38 : ((s[k].toNat : Int) == 38) = true := by simp; omega
          have g124 : ((s[k].toNat : Int) == 124) = false := by simp; omega
          obtain ⟨r1, hr1⟩ : ∃ r, ends wide [1] s.data.toList ((k : Int) + 1) = r := ⟨_, rfl⟩
          have hf1 := ends_fits wide 1 s (a := ((k : Int) + 1)) (by omega)
          rw [hr1] at hf1
          have HR1 := Lib.hid hr1
          have hn0 : (k : Int) + 1 < 0 ∨ (s.size : Int) - ((k : Int) + 1) ≤ n := by omega
          have hn1 : r1 < 0 ∨ (s.size : Int) - r1 ≤ n := by omega
          have hb1 : r1 ≤ s.size := by omega
          have HN0 := Lib.hid hn0
          have HN1 := Lib.hid hn1
          clear hb hn hn0 hn1 hr1 hf1
          go_enter Try.func18, Try.ntmps18
          go_wp2_with fail
          refine (IH.out ((k : Int) + 1) _ HN0.out (by omega)).mono ?_
          rintro e w1 ⟨rfl, hw1⟩
          rw [HR1.out]
          go_wp2_with fail
          refine (IH.out r1 _ HN1.out hb1).mono ?_
          rintro e w2 ⟨rfl, hw2⟩
          go_wp2_with fail
          go_ret
          exact ⟨by rw [HE.out, HR1.out]; rfl, grew (hw1) hw2⟩
        · have HE := Lib.hid (ends_two (wide := wide) (s := 1) hlt (show wants wide 1 s[k].toNat = some [1, 1] by rw [hb]; simp [wants]))
          have g116 : ((s[k].toNat : Int) == 116) = false := by simp; omega
          have g102 : ((s[k].toNat : Int) == 102) = false := by simp; omega
          have g61 : ((s[k].toNat : Int) == 61) = false := by simp; omega
          have g60 : ((s[k].toNat : Int) == 60) = false := by simp; omega
          have g33 : ((s[k].toNat : Int) == 33) = false := by simp; omega
          have g38 : ((s[k].toNat : Int) == 38) = false := by simp; omega
          have g124 : ((s[k].toNat : Int) == 124) = true := by simp; omega
          obtain ⟨r1, hr1⟩ : ∃ r, ends wide [1] s.data.toList ((k : Int) + 1) = r := ⟨_, rfl⟩
          have hf1 := ends_fits wide 1 s (a := ((k : Int) + 1)) (by omega)
          rw [hr1] at hf1
          have HR1 := Lib.hid hr1
          have hn0 : (k : Int) + 1 < 0 ∨ (s.size : Int) - ((k : Int) + 1) ≤ n := by omega
          have hn1 : r1 < 0 ∨ (s.size : Int) - r1 ≤ n := by omega
          have hb1 : r1 ≤ s.size := by omega
          have HN0 := Lib.hid hn0
          have HN1 := Lib.hid hn1
          clear hb hn hn0 hn1 hr1 hf1
          go_enter Try.func18, Try.ntmps18
          go_wp2_with fail
          refine (IH.out ((k : Int) + 1) _ HN0.out (by omega)).mono ?_
          rintro e w1 ⟨rfl, hw1⟩
          rw [HR1.out]
          go_wp2_with fail
          refine (IH.out r1 _ HN1.out hb1).mono ?_
          rintro e w2 ⟨rfl, hw2⟩
          go_wp2_with fail
          go_ret
          exact ⟨by rw [HE.out, HR1.out]; rfl, grew (hw1) hw2⟩
        · have HE := Lib.hid (ends_bad (wide := wide) (s := 1) hlt (by simp [wants, hb]))
          have g116 : ((s[k].toNat : Int) == 116) = false := by simp; omega
          have g102 : ((s[k].toNat : Int) == 102) = false := by simp; omega
          have g61 : ((s[k].toNat : Int) == 61) = false := by simp; omega
          have g60 : ((s[k].toNat : Int) == 60) = false := by simp; omega
          have g33 : ((s[k].toNat : Int) == 33) = false := by simp; omega
          have g38 : ((s[k].toNat : Int) == 38) = false := by simp; omega
          have g124 : ((s[k].toNat : Int) == 124) = false := by simp; omega
          clear hb
          go_enter Try.func18, Try.ntmps18
          go_wp2
          go_ret
          exact ⟨by rw [HE.out]; rfl, Below.refl _ _⟩
theorem specTestAny (s : ByteArray) (hs : s.size ≤ 1048576) (wide : Bool) (a : Int) (w : World) (ha : a ≤ s.size) :
    Calls Try.prog 18 #[.string s, .int .i64 a, .bool wide] w fun e w' => e = .returned (.int .i64 (ends wide [1] s.data.toList a)) ∧ Below w.heap.size w w' :=
  specTest s hs wide s.size a w (by omega) ha
set_option maxHeartbeats 8000000 in
/-- Where the text of this sort that begins at an index ends, or -1. -/
theorem specProg (s : ByteArray) (hs : s.size ≤ 1048576) (wide : Bool) (n : Nat) : ∀ (a : Int) (w : World), (a < 0 ∨ (s.size : Int) - a ≤ n) → a ≤ s.size →
    Calls Try.prog 11 #[.string s, .int .i64 a, .bool wide] w fun e w' => e = .returned (.int .i64 (ends wide [2] s.data.toList a)) ∧ Below w.heap.size w w' := by
  induction n with
  | zero =>
    intro a w hn ha
    have HE := Lib.hid (ends_out (wide := wide) (s := 2) (b := s) (a := a) (by omega))
    rcases (show a < 0 ∨ a = s.size by omega) with h | rfl
    · go_enter Try.func11, Try.ntmps11
      go_wp2
      go_ret
      exact ⟨by rw [HE.out]; rfl, Below.refl _ _⟩
    · go_enter Try.func11, Try.ntmps11
      go_wp2
      go_ret
      exact ⟨by rw [HE.out]; rfl, Below.refl _ _⟩
  | succ n ih =>
    intro a w hn ha
    have IH := Lib.hid ih; clear ih
    by_cases h0 : a < 0
    · have HE := Lib.hid (ends_out (wide := wide) (s := 2) (b := s) (a := a) (.inl h0))
      go_enter Try.func11, Try.ntmps11
      go_wp2
      go_ret
      exact ⟨by rw [HE.out]; rfl, Below.refl _ _⟩
    · obtain ⟨k, rfl⟩ := Int.eq_ofNat_of_zero_le (show 0 ≤ a by omega)
      by_cases hk : k = s.size
      · have HE := Lib.hid (ends_out (wide := wide) (s := 2) (b := s) (a := (k : Int)) (.inr (by omega)))
        have h1 : ¬ (k : Int) < s.size := by omega
        have h2 : (s.size : Int) ≤ k := by omega
        clear hk
        go_enter Try.func11, Try.ntmps11
        go_wp2
        go_ret
        exact ⟨by rw [HE.out]; rfl, Below.refl _ _⟩
      · have hlt : k < s.size := by omega
        have hlt' : (k : Int) < (s.size : Int) := by omega
        clear hk ha
        rcases (show s[k].toNat = 115 ∨ s[k].toNat = 97 ∨ s[k].toNat = 59 ∨ s[k].toNat = 47 ∨ s[k].toNat = 63 ∨ s[k].toNat = 64 ∨ s[k].toNat = 126 ∨ (¬ s[k].toNat = 115 ∧ ¬ s[k].toNat = 97 ∧ ¬ s[k].toNat = 59 ∧ ¬ s[k].toNat = 47 ∧ ¬ s[k].toNat = 63 ∧ ¬ s[k].toNat = 64 ∧ ¬ s[k].toNat = 126) by omega) with hb | hb | hb | hb | hb | hb | hb | hb
        · have HE := Lib.hid (ends_leaf (wide := wide) (s := 2) hlt (show wants wide 2 s[k].toNat = some [] by rw [hb]; simp [wants]))
          have g115 : ((s[k].toNat : Int) == 115) = true := by simp; omega
          have g97 : ((s[k].toNat : Int) == 97) = false := by simp; omega
          have g59 : ((s[k].toNat : Int) == 59) = false := by simp; omega
          have g47 : ((s[k].toNat : Int) == 47) = false := by simp; omega
          have g63 : ((s[k].toNat : Int) == 63) = false := by simp; omega
          have g64 : ((s[k].toNat : Int) == 64) = false := by simp; omega
          have g126 : ((s[k].toNat : Int) == 126) = false := by simp; omega
          clear hb
          go_enter Try.func11, Try.ntmps11
          go_wp2
          go_ret
          exact ⟨by rw [HE.out]; rfl, Below.refl _ _⟩
        · have HE := Lib.hid (ends_two (wide := wide) (s := 2) hlt (show wants wide 2 s[k].toNat = some [3, 0] by rw [hb]; simp [wants]))
          have g115 : ((s[k].toNat : Int) == 115) = false := by simp; omega
          have g97 : ((s[k].toNat : Int) == 97) = true := by simp; omega
          have g59 : ((s[k].toNat : Int) == 59) = false := by simp; omega
          have g47 : ((s[k].toNat : Int) == 47) = false := by simp; omega
          have g63 : ((s[k].toNat : Int) == 63) = false := by simp; omega
          have g64 : ((s[k].toNat : Int) == 64) = false := by simp; omega
          have g126 : ((s[k].toNat : Int) == 126) = false := by simp; omega
          by_cases hk1 : k + 1 = s.size
          · have HO := Lib.hid (ends_out (wide := wide) (s := 3) (b := s) (a := (k : Int) + 1) (.inr (by omega)))
            have HO2 := Lib.hid (ends_out (wide := wide) (s := 0) (b := s) (a := -1) (.inl (by omega)))
            have h2 : (s.size : Int) ≤ (k : Int) + 1 := by omega
            clear hb hk1
            go_enter Try.func11, Try.ntmps11
            go_wp2
            refine wp_region_quiet_below (by kernel_rfl) (by kernel_rfl) ?_
            repeat (go_big_quiet_step (first | (go_at_call 16; exact Calls.regrown_of (of_same (specNames _ _))) | (go_at_call 15; exact Calls.regrown_of (as_value (by rw [HE.out]) (of_same (specFind _ s[k] _ (by cases wide <;> decide)))) )))
            refine wpQuiet_nil ?_
            intro _ hw'
            obtain ⟨⟨dq, osq⟩, hw''⟩ := hw'
            subst hw''
            go_wp2
            go_ret
            exact ⟨by rw [HE.out, HO.out, HO2.out]; rfl, below_regrown _ _ _⟩
          · have hlt1 : k + 1 < s.size := by omega
            have hlt2 : (k : Int) + 1 < (s.size : Int) := by omega
            have hlt3 : ((k : Int) + 1).toNat = k + 1 := by omega
            have hlt4 : (0 : Int) ≤ (k : Int) + 1 := by omega
            have hdec : decide ((s.size : Int) ≤ (k : Int) + 1) = false := by simp; omega
            obtain ⟨iv, hiv⟩ : ∃ i, Lib.indexByte (names wide).data.toList s[k + 1] = i := ⟨_, rfl⟩
            have HIV := Lib.hid hiv
            have hv := names_var wide s[k + 1]
            rw [hiv] at hv
            clear hiv hk1 hb
            cases cv : vrB wide s[k + 1].toNat with
            | true =>
              have hv' := hv.1 cv
              have HL := Lib.hid (ends_leaf (wide := wide) (s := 3) hlt1 (by simp [wants, cv]))
              have HL2 := Lib.hid (show ends wide [3] s.data.toList ((k : Int) + 1) = (k : Int) + 2 by have := HL.out; rw [show ((k + 1 : Nat) : Int) = (k : Int) + 1 by omega] at this; omega)
              clear hv cv
              go_enter Try.func11, Try.ntmps11
              go_wp2
              refine wp_region_quiet_below (by kernel_rfl) (by kernel_rfl) ?_
              repeat (go_big_quiet_step (first | (go_at_call 16; exact Calls.regrown_of (of_same (specNames _ _))) | (go_at_call 15; exact Calls.regrown_of (as_value (by rw [HIV.out]) (of_same (specFind _ s[k + 1] _ (by cases wide <;> decide)))) )))
              refine wpQuiet_nil ?_
              intro _ hw'
              obtain ⟨⟨dq, osq⟩, hw''⟩ := hw'
              subst hw''
              go_wp2_with fail
              refine (specExprAny s hs wide ((k : Int) + 2) _ (by omega)).mono ?_
              rintro e w2 ⟨rfl, hb2⟩
              go_wp2_with fail
              go_ret
              exact ⟨by rw [HE.out, HL2.out]; rfl, grew (below_regrown _ _ _) hb2⟩
            | false =>
              have hv' := hv.2 cv
              have HL := Lib.hid (ends_bad (wide := wide) (s := 3) hlt1 (by simp [wants, cv]))
              have HL2 := Lib.hid (show ends wide [3] s.data.toList ((k : Int) + 1) = -1 from HL.out)
              have HO2 := Lib.hid (ends_out (wide := wide) (s := 0) (b := s) (a := -1) (.inl (by omega)))
              clear hv cv
              subst hv'
              go_enter Try.func11, Try.ntmps11
              go_wp2
              refine wp_region_quiet_below (by kernel_rfl) (by kernel_rfl) ?_
              repeat (go_big_quiet_step (first | (go_at_call 16; exact Calls.regrown_of (of_same (specNames _ _))) | (go_at_call 15; exact Calls.regrown_of (as_value (by rw [HIV.out]) (of_same (specFind _ s[k + 1] _ (by cases wide <;> decide)))) )))
              refine wpQuiet_nil ?_
              intro _ hw'
              obtain ⟨⟨dq, osq⟩, hw''⟩ := hw'
              subst hw''
              go_wp2
              go_ret
              exact ⟨by rw [HE.out, HL2.out, HO2.out]; rfl, below_regrown _ _ _⟩
        · have HE := Lib.hid (ends_two (wide := wide) (s := 2) hlt (show wants wide 2 s[k].toNat = some [2, 2] by rw [hb]; simp [wants]))
          have g115 : ((s[k].toNat : Int) == 115) = false := by simp; omega
          have g97 : ((s[k].toNat : Int) == 97) = false := by simp; omega
          have g59 : ((s[k].toNat : Int) == 59) = true := by simp; omega
          have g47 : ((s[k].toNat : Int) == 47) = false := by simp; omega
          have g63 : ((s[k].toNat : Int) == 63) = false := by simp; omega
          have g64 : ((s[k].toNat : Int) == 64) = false := by simp; omega
          have g126 : ((s[k].toNat : Int) == 126) = false := by simp; omega
          obtain ⟨r1, hr1⟩ : ∃ r, ends wide [2] s.data.toList ((k : Int) + 1) = r := ⟨_, rfl⟩
          have hf1 := ends_fits wide 2 s (a := ((k : Int) + 1)) (by omega)
          rw [hr1] at hf1
          have HR1 := Lib.hid hr1
          have hn0 : (k : Int) + 1 < 0 ∨ (s.size : Int) - ((k : Int) + 1) ≤ n := by omega
          have hn1 : r1 < 0 ∨ (s.size : Int) - r1 ≤ n := by omega
          have hb1 : r1 ≤ s.size := by omega
          have HN0 := Lib.hid hn0
          have HN1 := Lib.hid hn1
          clear hb hn hn0 hn1 hr1 hf1
          go_enter Try.func11, Try.ntmps11
          go_wp2_with fail
          refine (IH.out ((k : Int) + 1) _ HN0.out (by omega)).mono ?_
          rintro e w1 ⟨rfl, hw1⟩
          rw [HR1.out]
          go_wp2_with fail
          refine (IH.out r1 _ HN1.out hb1).mono ?_
          rintro e w2 ⟨rfl, hw2⟩
          go_wp2_with fail
          go_ret
          exact ⟨by rw [HE.out, HR1.out]; rfl, grew (hw1) hw2⟩
        · have HE := Lib.hid (ends_two (wide := wide) (s := 2) hlt (show wants wide 2 s[k].toNat = some [2, 2] by rw [hb]; simp [wants]))
          have g115 : ((s[k].toNat : Int) == 115) = false := by simp; omega
          have g97 : ((s[k].toNat : Int) == 97) = false := by simp; omega
          have g59 : ((s[k].toNat : Int) == 59) = false := by simp; omega
          have g47 : ((s[k].toNat : Int) == 47) = true := by simp; omega
          have g63 : ((s[k].toNat : Int) == 63) = false := by simp; omega
          have g64 : ((s[k].toNat : Int) == 64) = false := by simp; omega
          have g126 : ((s[k].toNat : Int) == 126) = false := by simp; omega
          obtain ⟨r1, hr1⟩ : ∃ r, ends wide [2] s.data.toList ((k : Int) + 1) = r := ⟨_, rfl⟩
          have hf1 := ends_fits wide 2 s (a := ((k : Int) + 1)) (by omega)
          rw [hr1] at hf1
          have HR1 := Lib.hid hr1
          have hn0 : (k : Int) + 1 < 0 ∨ (s.size : Int) - ((k : Int) + 1) ≤ n := by omega
          have hn1 : r1 < 0 ∨ (s.size : Int) - r1 ≤ n := by omega
          have hb1 : r1 ≤ s.size := by omega
          have HN0 := Lib.hid hn0
          have HN1 := Lib.hid hn1
          clear hb hn hn0 hn1 hr1 hf1
          go_enter Try.func11, Try.ntmps11
          go_wp2_with fail
          refine (IH.out ((k : Int) + 1) _ HN0.out (by omega)).mono ?_
          rintro e w1 ⟨rfl, hw1⟩
          rw [HR1.out]
          go_wp2_with fail
          refine (IH.out r1 _ HN1.out hb1).mono ?_
          rintro e w2 ⟨rfl, hw2⟩
          go_wp2_with fail
          go_ret
          exact ⟨by rw [HE.out, HR1.out]; rfl, grew (hw1) hw2⟩
        · have HE := Lib.hid (ends_three (wide := wide) (s := 2) hlt (show wants wide 2 s[k].toNat = some [1, 2, 2] by rw [hb]; simp [wants]))
          have g115 : ((s[k].toNat : Int) == 115) = false := by simp; omega
          have g97 : ((s[k].toNat : Int) == 97) = false := by simp; omega
          have g59 : ((s[k].toNat : Int) == 59) = false := by simp; omega
          have g47 : ((s[k].toNat : Int) == 47) = false := by simp; omega
          have g63 : ((s[k].toNat : Int) == 63) = true := by simp; omega
          have g64 : ((s[k].toNat : Int) == 64) = false := by simp; omega
          have g126 : ((s[k].toNat : Int) == 126) = false := by simp; omega
          obtain ⟨r1, hr1⟩ : ∃ r, ends wide [1] s.data.toList ((k : Int) + 1) = r := ⟨_, rfl⟩
          have hf1 := ends_fits wide 1 s (a := ((k : Int) + 1)) (by omega)
          rw [hr1] at hf1
          have HR1 := Lib.hid hr1
          obtain ⟨r2, hr2⟩ : ∃ r, ends wide [2] s.data.toList r1 = r := ⟨_, rfl⟩
          have hf2 := ends_fits wide 2 s (a := r1) (by omega)
          rw [hr2] at hf2
          have HR2 := Lib.hid hr2
          have hn0 : (k : Int) + 1 < 0 ∨ (s.size : Int) - ((k : Int) + 1) ≤ n := by omega
          have hn1 : r1 < 0 ∨ (s.size : Int) - r1 ≤ n := by omega
          have hb1 : r1 ≤ s.size := by omega
          have hn2 : r2 < 0 ∨ (s.size : Int) - r2 ≤ n := by omega
          have hb2 : r2 ≤ s.size := by omega
          have HN0 := Lib.hid hn0
          have HN1 := Lib.hid hn1
          have HN2 := Lib.hid hn2
          clear hb hn hn0 hn1 hn2 hr1 hf1 hr2 hf2
          go_enter Try.func11, Try.ntmps11
          go_wp2_with fail
          refine (specTestAny s hs wide ((k : Int) + 1) _ (by omega)).mono ?_
          rintro e w1 ⟨rfl, hw1⟩
          rw [HR1.out]
          go_wp2_with fail
          refine (IH.out r1 _ HN1.out hb1).mono ?_
          rintro e w2 ⟨rfl, hw2⟩
          rw [HR2.out]
          go_wp2_with fail
          refine (IH.out r2 _ HN2.out hb2).mono ?_
          rintro e w3 ⟨rfl, hw3⟩
          go_wp2_with fail
          go_ret
          exact ⟨by rw [HE.out, HR1.out, HR2.out]; rfl, grew (grew (hw1) hw2) hw3⟩
        · have HE := Lib.hid (ends_two (wide := wide) (s := 2) hlt (show wants wide 2 s[k].toNat = some [1, 2] by rw [hb]; simp [wants]))
          have g115 : ((s[k].toNat : Int) == 115) = false := by simp; omega
          have g97 : ((s[k].toNat : Int) == 97) = false := by simp; omega
          have g59 : ((s[k].toNat : Int) == 59) = false := by simp; omega
          have g47 : ((s[k].toNat : Int) == 47) = false := by simp; omega
          have g63 : ((s[k].toNat : Int) == 63) = false := by simp; omega
          have g64 : ((s[k].toNat : Int) == 64) = true := by simp; omega
          have g126 : ((s[k].toNat : Int) == 126) = false := by simp; omega
          obtain ⟨r1, hr1⟩ : ∃ r, ends wide [1] s.data.toList ((k : Int) + 1) = r := ⟨_, rfl⟩
          have hf1 := ends_fits wide 1 s (a := ((k : Int) + 1)) (by omega)
          rw [hr1] at hf1
          have HR1 := Lib.hid hr1
          have hn0 : (k : Int) + 1 < 0 ∨ (s.size : Int) - ((k : Int) + 1) ≤ n := by omega
          have hn1 : r1 < 0 ∨ (s.size : Int) - r1 ≤ n := by omega
          have hb1 : r1 ≤ s.size := by omega
          have HN0 := Lib.hid hn0
          have HN1 := Lib.hid hn1
          clear hb hn hn0 hn1 hr1 hf1
          go_enter Try.func11, Try.ntmps11
          go_wp2_with fail
          refine (specTestAny s hs wide ((k : Int) + 1) _ (by omega)).mono ?_
          rintro e w1 ⟨rfl, hw1⟩
          rw [HR1.out]
          go_wp2_with fail
          refine (IH.out r1 _ HN1.out hb1).mono ?_
          rintro e w2 ⟨rfl, hw2⟩
          go_wp2_with fail
          go_ret
          exact ⟨by rw [HE.out, HR1.out]; rfl, grew (hw1) hw2⟩
        · have HE := Lib.hid (ends_one (wide := wide) (s := 2) hlt (show wants wide 2 s[k].toNat = some [1] by rw [hb]; simp [wants]))
          have g115 : ((s[k].toNat : Int) == 115) = false := by simp; omega
          have g97 : ((s[k].toNat : Int) == 97) = false := by simp; omega
          have g59 : ((s[k].toNat : Int) == 59) = false := by simp; omega
          have g47 : ((s[k].toNat : Int) == 47) = false := by simp; omega
          have g63 : ((s[k].toNat : Int) == 63) = false := by simp; omega
          have g64 : ((s[k].toNat : Int) == 64) = false := by simp; omega
          have g126 : ((s[k].toNat : Int) == 126) = true := by simp; omega
          have hn0 : (k : Int) + 1 < 0 ∨ (s.size : Int) - ((k : Int) + 1) ≤ n := by omega
          have HN0 := Lib.hid hn0
          clear hb hn hn0 
          go_enter Try.func11, Try.ntmps11
          go_wp2_with fail
          refine (specTestAny s hs wide ((k : Int) + 1) _ (by omega)).mono ?_
          rintro e w1 ⟨rfl, hw1⟩
          go_wp2_with fail
          go_ret
          exact ⟨by rw [HE.out]; rfl, hw1⟩
        · have HE := Lib.hid (ends_bad (wide := wide) (s := 2) hlt (by simp [wants, hb]))
          have g115 : ((s[k].toNat : Int) == 115) = false := by simp; omega
          have g97 : ((s[k].toNat : Int) == 97) = false := by simp; omega
          have g59 : ((s[k].toNat : Int) == 59) = false := by simp; omega
          have g47 : ((s[k].toNat : Int) == 47) = false := by simp; omega
          have g63 : ((s[k].toNat : Int) == 63) = false := by simp; omega
          have g64 : ((s[k].toNat : Int) == 64) = false := by simp; omega
          have g126 : ((s[k].toNat : Int) == 126) = false := by simp; omega
          clear hb
          go_enter Try.func11, Try.ntmps11
          go_wp2
          go_ret
          exact ⟨by rw [HE.out]; rfl, Below.refl _ _⟩
theorem specProgAny (s : ByteArray) (hs : s.size ≤ 1048576) (wide : Bool) (a : Int) (w : World) (ha : a ≤ s.size) :
    Calls Try.prog 11 #[.string s, .int .i64 a, .bool wide] w fun e w' => e = .returned (.int .i64 (ends wide [2] s.data.toList a)) ∧ Below w.heap.size w w' :=
  specProg s hs wide s.size a w (by omega) ha
end Go.Proofs.Ytnhdnfanjefglaa.Ed
