/- Contracts and laws: ReadsOf, WritesOf. -/
import Derived.Test.YtialodkhckaklaaHeads
import Derived.Test.YtialodkhckaklaaLet
namespace Go.Proofs.Ytialodkhckaklaa.Rw
open Go.RowKit Go.Deep Go.Proofs.Ytialodkhckaklaa.Pl Go.Proofs.Ytialodkhckaklaa.Bi Go.Proofs.Ytialodkhckaklaa.Fi Go.Proofs.Ytialodkhckaklaa.Ed Go.Proofs.Ytialodkhckaklaa.Ps Go.Proofs.Ytialodkhckaklaa.Sw Go.Proofs.Ytialodkhckaklaa.Hd Go.Proofs.Ytialodkhckaklaa.Pp Go.Proofs.Ytialodkhckaklaa.Ea Go.Proofs.Ytialodkhckaklaa.Sz Go.Proofs.Ytialodkhckaklaa.Hs Go.Proofs.Ytialodkhckaklaa.Vs Go.Proofs.Ytialodkhckaklaa.Lt
set_option linter.unusedVariables false

/-- What a statement itself reads, and writes. -/
def readT (x : UInt8 × F) : List UInt8 := if x.1.toNat = 97 then (headT x.1 x.2).drop 1 else headT x.1 x.2
def writeT (x : UInt8 × F) : List UInt8 := if x.1.toNat = 97 then (headT x.1 x.2).take 1 else []
def pick (wr : Bool) (x : UInt8 × F) : List UInt8 := if wr then writeT x else readT x
theorem head_le (b : UInt8) (k : F) : (headT b k).length ≤ k.size := by
  unfold headT
  split
  · rw [F.length_text]; exact Nat.le_refl _
  · split
    · cases k with
      | nil => simp
      | node b0 k0 n => simp only [tx, List.length_cons, F.length_text, F.size]; omega
    · simp
theorem pick_le (wr : Bool) (x : UInt8 × F) : (pick wr x).length ≤ x.2.size := by
  have h := head_le x.1 x.2
  unfold pick readT writeT
  repeat' split
  all_goals simp
  all_goals omega
/-- The text of what was seen, in a block of its own. -/
def txt (N : Nat) (f : UInt8 × F → List UInt8) (done : List (UInt8 × F)) (w : World) : Prop :=
  w.cell? ⟨N, 0, none⟩ = some (.string (bs (done.map f).flatten)) ∧ w.frozen? ⟨N, 0, none⟩ = false ∧ N < w.heap.size ∧ (done.map f).flatten.length ≤ done.length * 1000
theorem txt_set {N : Nat} {f : UInt8 × F → List UInt8} {done : List (UInt8 × F)} {w : World} {x : UInt8 × F} (h : txt N f done w) {s t : ByteArray} (hs : s = bs (done.map f).flatten) (ht : t = bs (f x)) (hx : (f x).length ≤ 1000) : txt N f (done ++ [x]) (w.setCell ⟨N, 0, none⟩ (.string (s ++ t))) := by
  refine ⟨?_, ?_, ?_, ?_⟩
  · rw [World.cell?_setCell_same _ _ _ h.1, hs, ht, bs_app]; simp
  · rw [World.frozen?_setCell]; exact h.2.1
  · rw [size_set]; exact h.2.2.1
  · have := h.2.2.2
    simp only [List.map_append, List.flatten_append, List.length_append, List.map_cons, List.map_nil, List.flatten_cons, List.flatten_nil, List.length_cons, List.length_nil, List.append_nil]
    omega
theorem txt_no {N : Nat} {f : UInt8 × F → List UInt8} {done : List (UInt8 × F)} {w : World} {x : UInt8 × F} (h : txt N f done w) (hx : f x = []) : txt N f (done ++ [x]) w := by
  refine ⟨?_, h.2.1, h.2.2.1, ?_⟩
  · rw [h.1]; simp [hx]
  · have e : ((done ++ [x]).map f).flatten = (done.map f).flatten := by simp [hx]
    rw [e, List.length_append]
    exact Nat.le_trans h.2.2.2 (Nat.mul_le_mul_right _ (Nat.le_add_right _ _))
theorem txt_drewN {N : Nat} {f : UInt8 × F → List UInt8} {done : List (UInt8 × F)} {w : World} (h : txt N f done w) (q : Nat) : txt N f done (w.drewN q) := h
theorem txt_new (f : UInt8 × F → List UInt8) (w : World) (t : TypeId) : txt w.heap.size f [] (w.alloc (.cells #[.string ⟨#[]⟩] t)) := by
  have h0 : (w.alloc (.cells #[.string ⟨#[]⟩] t)).cell? ⟨w.heap.size, 0, none⟩ = some (.string ⟨#[]⟩) := by simp [World.cell?_alloc_at]
  refine ⟨h0, ?_, ?_, ?_⟩
  · unfold World.frozen?; rw [blk_alloc_new]; rfl
  · simp
  · simp
set_option maxRecDepth 100000 in
set_option maxHeartbeats 2000000 in
theorem stepReads (N M : Nat) (wide : Bool) (hM : M ≤ 999) : Hid (∀ (b : UInt8) (k : F) (p : Nat) (w : World) (done : List (UInt8 × F)), Is wide 2 b k → done.length + (k.size + 1) ≤ M → inW (fun x => x < N) w (.node b k .nil) [p] → txt N (pick false) done w → N ≤ w.heap.size →
      Calls Try.prog 64 (#[.pointer (some ⟨p, 0, none⟩)] ++ #[.pointer (some ⟨N, 0, none⟩)]) w fun e w' => e = .returned (.tuple #[]) ∧ txt N (pick false) (done ++ [(b, k)]) w' ∧ Below N w w') := Lib.hid (by
  intro b k p w done hi hd hT hI hN
  have h0 : w.cell? ⟨p, 0, none⟩ = some (.int .u8 (b.toNat : Int)) := hT.2.1
  have hTT : isT w p b k := inW_mono (fun _ _ => trivial) hT
  have c0 := hI.1
  have hf := hI.2.1
  have hsz : (bs (done.map (pick false)).flatten).size ≤ 1000000 := by rw [bs_size]; have := hI.2.2.2; omega
  have hpk : (pick false (b, k)).length ≤ k.size := pick_le false (b, k)
  have HS := Lib.hid (fun (t : ByteArray) ht q => txt_set (x := (b, k)) (txt_drewN hI q) (t := t) rfl ht (by omega))
  have HN := Lib.hid (fun hx q => txt_no (x := (b, k)) (txt_drewN hI q) hx)
  have HB := Lib.hid (fun q u => (below_drewN (Below.refl N w) q).setCell (p := ⟨N, 0, none⟩) (Nat.le_refl _) u)
  have HB0 := Lib.hid (fun q => below_drewN (Below.refl N w) q)
  obtain ⟨A, hA⟩ : ∃ A, bs (done.map (pick false)).flatten = A := ⟨_, rfl⟩
  rw [hA] at c0 hsz HS
  clear hA hI
  rcases is_prog hi with ⟨rfl, hb⟩ | ⟨hb, b1, b2, k2, rfl, hv, i2⟩ | ⟨hb, b1, k1, b2, k2, rfl, i1, i2⟩ | ⟨hb, b0, k0, b1, k1, b2, k2, rfl, i0, i1, i2⟩ | ⟨hb, b0, k0, b1, k1, rfl, i0, i1⟩ | ⟨hb, b0, k0, rfl, i0⟩
  · have g97 : ((b.toNat : Int) == 97) = false := by simp; omega
    have g63 : ((b.toNat : Int) == 63) = false := by simp; omega
    have g64 : ((b.toNat : Int) == 64) = false := by simp; omega
    have g126 : ((b.toNat : Int) == 126) = false := by simp; omega
    have HX := Lib.hid (show pick false (b, .nil) = [] by simp [pick, readT, writeT, headT, hb])
    clear hb hT hTT hi
    go_enter Try.func64, Try.ntmps64
    go_wp2_with fail
    exact bodyPost_end (v := .tuple #[]) (by simp [results, Try.results64, go_sem]) rfl ⟨rfl, HN.out HX.out 0, HB0.out 0⟩
  · have g97 : ((b.toNat : Int) == 97) = true := by simp; omega
    have g63 : ((b.toNat : Int) == 63) = false := by simp; omega
    have g64 : ((b.toNat : Int) == 64) = false := by simp; omega
    have g126 : ((b.toNat : Int) == 126) = false := by simp; omega
    obtain ⟨gg, cap, p1, p2, c1, d1, d2, t1, t2⟩ := isT_two hTT
    have ht := isT_text t2
    have HX := Lib.hid (show bs (tx b2 k2) = bs (pick false (b, (.node b1 .nil (.node b2 k2 .nil)))) by simp [pick, readT, writeT, headT, hb, tx, F.text])
    have hsx : (bs (tx b2 k2)).size ≤ 1000 := by rw [HX.out, bs_size]; exact Nat.le_trans hpk (by omega)
    obtain ⟨T, hT'⟩ : ∃ T, bs (tx b2 k2) = T := ⟨_, rfl⟩
    rw [hT'] at ht HX hsx
    clear hb hT hi hT'
    go_enter Try.func64, Try.ntmps64
    go_wp2_with fail
    go_region
    go_wp2_with fail
    exact bodyPost_end (v := .tuple #[]) (by simp [results, Try.results64, go_sem]) rfl ⟨rfl, HS.out _ HX.out _, HB.out _ _⟩
  · have g97 : ((b.toNat : Int) == 97) = false := by simp; omega
    have g63 : ((b.toNat : Int) == 63) = false := by simp; omega
    have g64 : ((b.toNat : Int) == 64) = false := by simp; omega
    have g126 : ((b.toNat : Int) == 126) = false := by simp; omega
    have HX := Lib.hid (show pick false (b, (.node b1 k1 (.node b2 k2 .nil))) = [] by rcases hb with hb | hb <;> simp [pick, readT, writeT, headT, hb])
    clear hb hT hTT hi
    go_enter Try.func64, Try.ntmps64
    go_wp2_with fail
    exact bodyPost_end (v := .tuple #[]) (by simp [results, Try.results64, go_sem]) rfl ⟨rfl, HN.out HX.out 0, HB0.out 0⟩
  · have g97 : ((b.toNat : Int) == 97) = false := by simp; omega
    have g63 : ((b.toNat : Int) == 63) = true := by simp; omega
    have g64 : ((b.toNat : Int) == 64) = false := by simp; omega
    have g126 : ((b.toNat : Int) == 126) = false := by simp; omega
    obtain ⟨gg, cap, p1, p2, p3, c1, d1, d2, d3, t1, t2, t3⟩ := isT_three hTT
    have ht := isT_text t1
    have HX := Lib.hid (show bs (tx b0 k0) = bs (pick false (b, (.node b0 k0 (.node b1 k1 (.node b2 k2 .nil))))) by simp [pick, readT, writeT, headT, hb, tx, F.text])
    have hsx : (bs (tx b0 k0)).size ≤ 1000 := by rw [HX.out, bs_size]; exact Nat.le_trans hpk (by omega)
    obtain ⟨T, hT'⟩ : ∃ T, bs (tx b0 k0) = T := ⟨_, rfl⟩
    rw [hT'] at ht HX hsx
    clear hb hT hi hT'
    go_enter Try.func64, Try.ntmps64
    go_wp2_with fail
    go_region
    go_wp2_with fail
    exact bodyPost_end (v := .tuple #[]) (by simp [results, Try.results64, go_sem]) rfl ⟨rfl, HS.out _ HX.out _, HB.out _ _⟩
  · have g97 : ((b.toNat : Int) == 97) = false := by simp; omega
    have g63 : ((b.toNat : Int) == 63) = false := by simp; omega
    have g64 : ((b.toNat : Int) == 64) = true := by simp; omega
    have g126 : ((b.toNat : Int) == 126) = false := by simp; omega
    obtain ⟨gg, cap, p1, p2, c1, d1, d2, t1, t2⟩ := isT_two hTT
    have ht := isT_text t1
    have HX := Lib.hid (show bs (tx b0 k0) = bs (pick false (b, (.node b0 k0 (.node b1 k1 .nil)))) by simp [pick, readT, writeT, headT, hb, tx, F.text])
    have hsx : (bs (tx b0 k0)).size ≤ 1000 := by rw [HX.out, bs_size]; exact Nat.le_trans hpk (by omega)
    obtain ⟨T, hT'⟩ : ∃ T, bs (tx b0 k0) = T := ⟨_, rfl⟩
    rw [hT'] at ht HX hsx
    clear hb hT hi hT'
    go_enter Try.func64, Try.ntmps64
    go_wp2_with fail
    go_region
    go_wp2_with fail
    exact bodyPost_end (v := .tuple #[]) (by simp [results, Try.results64, go_sem]) rfl ⟨rfl, HS.out _ HX.out _, HB.out _ _⟩
  · have g97 : ((b.toNat : Int) == 97) = false := by simp; omega
    have g63 : ((b.toNat : Int) == 63) = false := by simp; omega
    have g64 : ((b.toNat : Int) == 64) = false := by simp; omega
    have g126 : ((b.toNat : Int) == 126) = true := by simp; omega
    obtain ⟨gg, cap, p1, c1, d1, t1⟩ := isT_one hTT
    have ht := isT_text t1
    have HX := Lib.hid (show bs (tx b0 k0) = bs (pick false (b, (.node b0 k0 .nil))) by simp [pick, readT, writeT, headT, hb, tx, F.text])
    have hsx : (bs (tx b0 k0)).size ≤ 1000 := by rw [HX.out, bs_size]; exact Nat.le_trans hpk (by omega)
    obtain ⟨T, hT'⟩ : ∃ T, bs (tx b0 k0) = T := ⟨_, rfl⟩
    rw [hT'] at ht HX hsx
    clear hb hT hi hT'
    go_enter Try.func64, Try.ntmps64
    go_wp2_with fail
    go_region
    go_wp2_with fail
    exact bodyPost_end (v := .tuple #[]) (by simp [results, Try.results64, go_sem]) rfl ⟨rfl, HS.out _ HX.out _, HB.out _ _⟩)
set_option maxRecDepth 100000 in
set_option maxHeartbeats 2000000 in
theorem stepWrites (N M : Nat) (wide : Bool) (hM : M ≤ 999) : Hid (∀ (b : UInt8) (k : F) (p : Nat) (w : World) (done : List (UInt8 × F)), Is wide 2 b k → done.length + (k.size + 1) ≤ M → inW (fun x => x < N) w (.node b k .nil) [p] → txt N (pick true) done w → N ≤ w.heap.size →
      Calls Try.prog 62 (#[.pointer (some ⟨p, 0, none⟩)] ++ #[.pointer (some ⟨N, 0, none⟩)]) w fun e w' => e = .returned (.tuple #[]) ∧ txt N (pick true) (done ++ [(b, k)]) w' ∧ Below N w w') := Lib.hid (by
  intro b k p w done hi hd hT hI hN
  have h0 : w.cell? ⟨p, 0, none⟩ = some (.int .u8 (b.toNat : Int)) := hT.2.1
  have hTT : isT w p b k := inW_mono (fun _ _ => trivial) hT
  have c0 := hI.1
  have hf := hI.2.1
  have hsz : (bs (done.map (pick true)).flatten).size ≤ 1000000 := by rw [bs_size]; have := hI.2.2.2; omega
  have hpk : (pick true (b, k)).length ≤ k.size := pick_le true (b, k)
  have HS := Lib.hid (fun (t : ByteArray) ht q => txt_set (x := (b, k)) (txt_drewN hI q) (t := t) rfl ht (by omega))
  have HN := Lib.hid (fun hx q => txt_no (x := (b, k)) (txt_drewN hI q) hx)
  have HB := Lib.hid (fun q u => (below_drewN (Below.refl N w) q).setCell (p := ⟨N, 0, none⟩) (Nat.le_refl _) u)
  have HB0 := Lib.hid (fun q => below_drewN (Below.refl N w) q)
  obtain ⟨A, hA⟩ : ∃ A, bs (done.map (pick true)).flatten = A := ⟨_, rfl⟩
  rw [hA] at c0 hsz HS
  clear hA hI
  rcases is_prog hi with ⟨rfl, hb⟩ | ⟨hb, b1, b2, k2, rfl, hv, i2⟩ | ⟨hb, b1, k1, b2, k2, rfl, i1, i2⟩ | ⟨hb, b0, k0, b1, k1, b2, k2, rfl, i0, i1, i2⟩ | ⟨hb, b0, k0, b1, k1, rfl, i0, i1⟩ | ⟨hb, b0, k0, rfl, i0⟩
  · have g97 : ((b.toNat : Int) == 97) = false := by simp; omega
    have g63 : ((b.toNat : Int) == 63) = false := by simp; omega
    have g64 : ((b.toNat : Int) == 64) = false := by simp; omega
    have g126 : ((b.toNat : Int) == 126) = false := by simp; omega
    have HX := Lib.hid (show pick true (b, .nil) = [] by simp [pick, readT, writeT, headT, hb])
    clear hb hT hTT hi
    go_enter Try.func62, Try.ntmps62
    go_wp2_with fail
    exact bodyPost_end (v := .tuple #[]) (by simp [results, Try.results62, go_sem]) rfl ⟨rfl, HN.out HX.out 0, HB0.out 0⟩
  · have g97 : ((b.toNat : Int) == 97) = true := by simp; omega
    have g63 : ((b.toNat : Int) == 63) = false := by simp; omega
    have g64 : ((b.toNat : Int) == 64) = false := by simp; omega
    have g126 : ((b.toNat : Int) == 126) = false := by simp; omega
    obtain ⟨gg, cap, p1, p2, c1, d1, d2, t1, t2⟩ := isT_two hTT
    have ht := isT_text t1
    have HX := Lib.hid (show bs (tx b1 .nil) = bs (pick true (b, (.node b1 .nil (.node b2 k2 .nil)))) by simp [pick, readT, writeT, headT, hb, tx, F.text])
    have hsx : (bs (tx b1 .nil)).size ≤ 1000 := by rw [HX.out, bs_size]; exact Nat.le_trans hpk (by omega)
    obtain ⟨T, hT'⟩ : ∃ T, bs (tx b1 .nil) = T := ⟨_, rfl⟩
    rw [hT'] at ht HX hsx
    clear hb hT hi hT'
    go_enter Try.func62, Try.ntmps62
    go_wp2_with fail
    go_region
    go_wp2_with fail
    exact bodyPost_end (v := .tuple #[]) (by simp [results, Try.results62, go_sem]) rfl ⟨rfl, HS.out _ HX.out _, HB.out _ _⟩
  · have g97 : ((b.toNat : Int) == 97) = false := by simp; omega
    have g63 : ((b.toNat : Int) == 63) = false := by simp; omega
    have g64 : ((b.toNat : Int) == 64) = false := by simp; omega
    have g126 : ((b.toNat : Int) == 126) = false := by simp; omega
    have HX := Lib.hid (show pick true (b, (.node b1 k1 (.node b2 k2 .nil))) = [] by rcases hb with hb | hb <;> simp [pick, readT, writeT, headT, hb])
    clear hb hT hTT hi
    go_enter Try.func62, Try.ntmps62
    go_wp2_with fail
    exact bodyPost_end (v := .tuple #[]) (by simp [results, Try.results62, go_sem]) rfl ⟨rfl, HN.out HX.out 0, HB0.out 0⟩
  · have g97 : ((b.toNat : Int) == 97) = false := by simp; omega
    have g63 : ((b.toNat : Int) == 63) = true := by simp; omega
    have g64 : ((b.toNat : Int) == 64) = false := by simp; omega
    have g126 : ((b.toNat : Int) == 126) = false := by simp; omega
    have HX := Lib.hid (show pick true (b, (.node b0 k0 (.node b1 k1 (.node b2 k2 .nil)))) = [] by simp [pick, readT, writeT, headT, hb])
    clear hb hT hTT hi
    go_enter Try.func62, Try.ntmps62
    go_wp2_with fail
    exact bodyPost_end (v := .tuple #[]) (by simp [results, Try.results62, go_sem]) rfl ⟨rfl, HN.out HX.out 0, HB0.out 0⟩
  · have g97 : ((b.toNat : Int) == 97) = false := by simp; omega
    have g63 : ((b.toNat : Int) == 63) = false := by simp; omega
    have g64 : ((b.toNat : Int) == 64) = true := by simp; omega
    have g126 : ((b.toNat : Int) == 126) = false := by simp; omega
    have HX := Lib.hid (show pick true (b, (.node b0 k0 (.node b1 k1 .nil))) = [] by simp [pick, readT, writeT, headT, hb])
    clear hb hT hTT hi
    go_enter Try.func62, Try.ntmps62
    go_wp2_with fail
    exact bodyPost_end (v := .tuple #[]) (by simp [results, Try.results62, go_sem]) rfl ⟨rfl, HN.out HX.out 0, HB0.out 0⟩
  · have g97 : ((b.toNat : Int) == 97) = false := by simp; omega
    have g63 : ((b.toNat : Int) == 63) = false := by simp; omega
    have g64 : ((b.toNat : Int) == 64) = false := by simp; omega
    have g126 : ((b.toNat : Int) == 126) = true := by simp; omega
    have HX := Lib.hid (show pick true (b, (.node b0 k0 .nil)) = [] by simp [pick, readT, writeT, headT, hb])
    clear hb hT hTT hi
    go_enter Try.func62, Try.ntmps62
    go_wp2_with fail
    exact bodyPost_end (v := .tuple #[]) (by simp [results, Try.results62, go_sem]) rfl ⟨rfl, HN.out HX.out 0, HB0.out 0⟩)
/-- What the function answers. -/
def vReads (s : ByteArray) : ByteArray := progV false 200 (fun b k => bs (varsIn false ((pre b k).map (pick false)).flatten)) (bs []) s
set_option maxRecDepth 100000 in
theorem implReadsOf (s : ByteArray) (w : World) (hs : s.size ≤ 1048576) : Calls Try.prog 37 #[.string s] w fun e w' => e = .returned (.string (vReads s)) ∧ Below w.heap.size w w' := by
  have hp := Lib.hid (implParseProg s w hs)
  go_enter Try.func37, Try.ntmps37
  go_wp2_with fail
  refine (hp.out).mono ?_
  rintro e w1 (⟨h, rfl, hb⟩ | ⟨b, k, p, h, hi, rfl, rfl, hT, hb⟩)
  · have H := Lib.hid (show vReads s = bs [] from progV_no _ _ h)
    clear h
    go_wp2_with fail
    go_ret
    exact ⟨by rw [H.out]; rfl, hb⟩
  · have H := Lib.hid (show vReads (bs (tx b k)) = _ from progV_is _ _ hi h)
    have hl := (okS_is h).1
    rw [bs_size, tx_size] at hl
    have HC := Lib.hid (fun w' hT' hI' hN' => implEach w1.heap.size 900 (by omega) false 64 #[.pointer (some ⟨w1.heap.size, 0, none⟩)] (txt w1.heap.size (pick false)) (fun _ _ => by simp [go_sem]) (stepReads _ _ _ (by omega)) k.size b k p w' [] (Nat.le_refl _) hi (by simp; omega) hT' hI' hN')
    have HT := Lib.hid (inW_lt hT)
    clear h hT hi hl
    go_wp2_with fail
    refine (HC.out _ (inW_stays (S' := fun x => x < w1.heap.size) (fun y hy _ => ⟨hy.2, ((Below.refl _ w1).alloc (Nat.le_refl _) _).block y hy.2⟩) HT.out) (txt_new _ _ _) (by simp)).mono ?_
    rintro e w2 ⟨rfl, ⟨c2, _, _, _⟩, hb2⟩
    have HB := Lib.hid (hb.trans (((Below.refl _ w1).alloc (Nat.le_refl _) _).trans (hb2.mono (Nat.le_refl _)) |>.mono hb.size))
    clear hb2
    rw [List.nil_append] at c2
    obtain ⟨A, hA⟩ : ∃ A, ((pre b k).map (pick false)).flatten = A := ⟨_, rfl⟩
    rw [hA] at c2 H
    have HL := Lib.hid (fun w => implLetters (bs A) w)
    rw [bs_list] at HL
    clear hA
    go_wp2_with fail
    refine (HL.out _).mono ?_
    rintro e w3 ⟨rfl, hb3⟩
    go_wp2_with fail
    go_ret
    exact ⟨by rw [H.out]; rfl, grew HB.out hb3⟩
/-- What the function answers. -/
def vWrites (s : ByteArray) : ByteArray := progV false 200 (fun b k => bs (varsIn false ((pre b k).map (pick true)).flatten)) (bs []) s
set_option maxRecDepth 100000 in
theorem implWritesOf (s : ByteArray) (w : World) (hs : s.size ≤ 1048576) : Calls Try.prog 35 #[.string s] w fun e w' => e = .returned (.string (vWrites s)) ∧ Below w.heap.size w w' := by
  have hp := Lib.hid (implParseProg s w hs)
  go_enter Try.func35, Try.ntmps35
  go_wp2_with fail
  refine (hp.out).mono ?_
  rintro e w1 (⟨h, rfl, hb⟩ | ⟨b, k, p, h, hi, rfl, rfl, hT, hb⟩)
  · have H := Lib.hid (show vWrites s = bs [] from progV_no _ _ h)
    clear h
    go_wp2_with fail
    go_ret
    exact ⟨by rw [H.out]; rfl, hb⟩
  · have H := Lib.hid (show vWrites (bs (tx b k)) = _ from progV_is _ _ hi h)
    have hl := (okS_is h).1
    rw [bs_size, tx_size] at hl
    have HC := Lib.hid (fun w' hT' hI' hN' => implEach w1.heap.size 900 (by omega) false 62 #[.pointer (some ⟨w1.heap.size, 0, none⟩)] (txt w1.heap.size (pick true)) (fun _ _ => by simp [go_sem]) (stepWrites _ _ _ (by omega)) k.size b k p w' [] (Nat.le_refl _) hi (by simp; omega) hT' hI' hN')
    have HT := Lib.hid (inW_lt hT)
    clear h hT hi hl
    go_wp2_with fail
    refine (HC.out _ (inW_stays (S' := fun x => x < w1.heap.size) (fun y hy _ => ⟨hy.2, ((Below.refl _ w1).alloc (Nat.le_refl _) _).block y hy.2⟩) HT.out) (txt_new _ _ _) (by simp)).mono ?_
    rintro e w2 ⟨rfl, ⟨c2, _, _, _⟩, hb2⟩
    have HB := Lib.hid (hb.trans (((Below.refl _ w1).alloc (Nat.le_refl _) _).trans (hb2.mono (Nat.le_refl _)) |>.mono hb.size))
    clear hb2
    rw [List.nil_append] at c2
    obtain ⟨A, hA⟩ : ∃ A, ((pre b k).map (pick true)).flatten = A := ⟨_, rfl⟩
    rw [hA] at c2 H
    have HL := Lib.hid (fun w => implLetters (bs A) w)
    rw [bs_list] at HL
    clear hA
    go_wp2_with fail
    refine (HL.out _).mono ?_
    rintro e w3 ⟨rfl, hb3⟩
    go_wp2_with fail
    go_ret
    exact ⟨by rw [H.out]; rfl, grew HB.out hb3⟩
theorem pre_mem (n : Nat) : ∀ (b : UInt8) (k : F), k.size < n → ∀ x ∈ pre b k, x.2.size ≤ k.size := by
  induction n with
  | zero => intro b k h; omega
  | succ n ih =>
    intro b k hk x hx
    rw [pre_eq] at hx
    rcases List.mem_cons.1 hx with rfl | hx
    · exact Nat.le_refl _
    · obtain ⟨l, hl, hx⟩ := List.mem_flatten.1 hx
      obtain ⟨y, hy, rfl⟩ := List.mem_map.1 hl
      have h1 := part_size hy
      have h2 := ih y.1 y.2 (by omega) x hx
      omega
theorem pre_is {wide : Bool} (n : Nat) : ∀ (b : UInt8) (k : F), k.size < n → Is wide 2 b k → ∀ x ∈ pre b k, Is wide 2 x.1 x.2 := by
  induction n with
  | zero => intro b k h; omega
  | succ n ih =>
    intro b k hk hi x hx
    rw [pre_eq] at hx
    rcases List.mem_cons.1 hx with rfl | hx
    · exact hi
    · obtain ⟨l, hl, hx⟩ := List.mem_flatten.1 hx
      obtain ⟨y, hy, rfl⟩ := List.mem_map.1 hl
      have h1 := part_size hy
      exact ih y.1 y.2 (by omega) (part_is hi hy) x hx
theorem head_ne {wide : Bool} {b : UInt8} {k : F} (hi : Is wide 2 b k) (h : b.toNat = 97) : 1 ≤ (headT b k).length := by
  rcases is_prog hi with ⟨rfl, hb⟩ | ⟨hb, b1, b2, k2, rfl, hv, i2⟩ | ⟨hb, b1, k1, b2, k2, rfl, i1, i2⟩ | ⟨hb, b0, k0, b1, k1, b2, k2, rfl, i0, i1, i2⟩ | ⟨hb, b0, k0, b1, k1, rfl, i0, i1⟩ | ⟨hb, b0, k0, rfl, i0⟩
  · omega
  · simp [headT, h, F.text]
  · omega
  · omega
  · omega
  · omega
/-- What the first so many statements read or write. -/
def allTo (wr : Bool) (L : List (UInt8 × F)) (i : Nat) : List UInt8 := ((L.take i).map (pick wr)).flatten
theorem allTo_step {wr : Bool} {L : List (UInt8 × F)} {i : Nat} {x : UInt8 × F} (h : L[i]? = some x) : allTo wr L (i + 1) = allTo wr L i ++ pick wr x := by
  unfold allTo
  rw [List.take_add_one, h]
  simp
theorem allTo_all (wr : Bool) (L : List (UInt8 × F)) : allTo wr L L.length = (L.map (pick wr)).flatten := by
  unfold allTo
  rw [List.take_of_length_le (Nat.le_refl _)]
theorem allTo_le (wr : Bool) {L : List (UInt8 × F)} (h : ∀ x ∈ L, x.2.size ≤ 1000) (i : Nat) : (allTo wr L i).length ≤ L.length * 1000 := by
  have h1 : ∀ l : List (UInt8 × F), (∀ x ∈ l, x.2.size ≤ 1000) → ((l.map (pick wr)).flatten).length ≤ l.length * 1000 := by
    intro l
    induction l with
    | nil => intro _; simp
    | cons a l ih =>
      intro hl
      have h2 := ih fun x hx => hl x (by simp [hx])
      have h3 := pick_le wr a
      have h4 := hl a (by simp)
      simp only [List.map_cons, List.flatten_cons, List.length_append, List.length_cons]
      omega
  have h2 := h1 (L.take i) fun x hx => h x (List.mem_of_mem_take hx)
  have h3 := List.length_take_le' i L
  exact Nat.le_trans h2 (Nat.mul_le_mul_right _ h3)
theorem cut_first (l : List UInt8) : (bs l).extract 0 1 = bs (l.take 1) := by
  have h : ((bs l).extract 0 1).data.toList = l.take 1 := by
    simp only [ByteArray.data_extract, Array.toList_extract, List.extract_eq_take_drop]
    rw [bs_list]
    simp
  exact bs_of h
theorem cut_rest (l : List UInt8) : (bs l).extract 1 (bs l).size = bs (l.drop 1) := by
  refine bs_of ?_
  simp only [ByteArray.data_extract, Array.toList_extract, List.extract_eq_take_drop]
  rw [bs_list, bs_size]
  exact List.take_of_length_le (by simp)
theorem kinds_at (l : List (UInt8 × F)) (i : Nat) (h : i < (bs (kindsL l)).size) : ∃ x, l[i]? = some x ∧ (bs (kindsL l))[i] = x.1 := by
  have hl : i < l.length := by rw [bs_size, kindsL, List.length_map] at h; exact h
  refine ⟨l[i], List.getElem?_eq_getElem hl, ?_⟩
  have h1 := byte_at (bs (kindsL l)) i h
  rw [bs_list, show (kindsL l)[i]? = some l[i].1 by simp [kindsL, hl]] at h1
  exact (Option.some.inj h1).symm
set_option maxRecDepth 100000 in
set_option maxHeartbeats 4000000 in
theorem specRead (wr : Bool) (b : UInt8) (k : F) (w : World) (hi : Is false 2 b k) (hs : k.size ≤ 900) :
    Calls Try.prog 61 #[.string (bs (tx b k)), .bool false, .bool wr] w fun e w' => e = .returned (.string (bs (varsIn false ((pre b k).map (pick wr)).flatten))) ∧ Below w.heap.size w w' := by
  have HC := Lib.hid (fun w => specHeads false (k.size + 1) b k w (by omega) hi hs)
  have hpl := pre_len b k
  have hmem := pre_mem (k.size + 1) b k (by omega)
  have hmis := pre_is (k.size + 1) b k (by omega) hi
  obtain ⟨L, hL⟩ : ∃ L, pre b k = L := ⟨_, rfl⟩
  rw [hL] at HC hpl hmem hmis ⊢
  have hz : (bs (kindsL L)).size = L.length := by rw [bs_size, kindsL, List.length_map]
  have HK := Lib.hid (kinds_at L)
  have HM := Lib.hid hmem
  have HI := Lib.hid hmis
  have HAA := Lib.hid (allTo_all wr L)
  have HAL := Lib.hid (allTo_le wr (L := L) (fun x hx => by have := hmem x hx; omega))
  obtain ⟨K, hK⟩ : ∃ K, bs (kindsL L) = K := ⟨_, rfl⟩
  rw [hK] at HC hz HK
  clear hi hL hK hmem hmis
  go_enter Try.func61, Try.ntmps61
  go_wp2_with fail
  refine (HC.out _).mono ?_
  rintro e w1 ⟨v, rfl, hv, hb⟩
  obtain ⟨g, cap, rfl, hg, hgl, hc, hdrop⟩ := strs_form hv
  clear hdrop
  have hll : (headsL L).length = L.length := by simp [headsL]
  rw [hll] at hv hc ⊢
  have HV := Lib.hid hv
  clear hv
  go_wp2_with fail
  go_loop [7, 10] (fun al i => ∃ j : Nat, j ≤ L.length ∧ i = .int .i64 j ∧ al = .string (bs (allTo wr L j))) (fun _ i => L.length - (intOf i).toNat)
  case atStart => exact ⟨0, Nat.zero_le _, rfl, rfl⟩
  case round =>
    obtain ⟨j, hj, rfl, rfl⟩ := hrel
    have hA : (bs (allTo wr L j)).size ≤ 1000000 := by rw [bs_size]; have := HAL.out j; omega
    by_cases hlt : j < L.length
    · have hltK : j < K.size := by omega
      obtain ⟨x, hx, he⟩ := HK.out j hltK
      have hxm := List.mem_of_getElem? hx
      have hcell : w1.cell? ⟨g, j, none⟩ = some (.string (bs (headT x.1 x.2))) := strs_cell HV.out (by simp [headsL, hx])
      have HS := Lib.hid (allTo_step (wr := wr) hx)
      have hh := head_le x.1 x.2
      have hsx := HM.out x hxm
      have hH : (bs (headT x.1 x.2)).size ≤ 1000 := by rw [bs_size]; omega
      by_cases hq : K[j].toNat = 97
      · have g1 : ((K[j].toNat : Int) == 97) = true := by simp; omega
        have hq' : x.1.toNat = 97 := by rw [← he]; exact hq
        have hne := head_ne (HI.out x hxm) hq'
        have hne1 : (1 : Int) ≤ ((bs (headT x.1 x.2)).size : Int) := by rw [bs_size]; omega
        cases wr with
        | true =>
          have HX := Lib.hid (show bs (allTo true L (j + 1)) = bs (allTo true L j) ++ (bs (headT x.1 x.2)).extract 0 1 by rw [HS.out, cut_first, bs_app]; simp [pick, writeT, hq'])
          have hsz1 : ((bs (headT x.1 x.2)).extract 0 1).size ≤ 1 := by rw [cut_first, bs_size]; simp; omega
          obtain ⟨T, hT⟩ : ∃ T, bs (headT x.1 x.2) = T := ⟨_, rfl⟩
          rw [hT] at hcell hH hne1 HX hsz1
          clear hx he hxm hq hq' hne hh hsx hT
          go_wp2_with fail
          go_round
          case rel => exact ⟨j + 1, by omega, by go_num, by rw [HX.out]⟩
          case measure => simp [intOf]; omega
        | false =>
          have HX := Lib.hid (show bs (allTo false L (j + 1)) = bs (allTo false L j) ++ (bs (headT x.1 x.2)).extract 1 (bs (headT x.1 x.2)).size by rw [HS.out, cut_rest, bs_app]; simp [pick, readT, hq'])
          have hsz1 : ((bs (headT x.1 x.2)).extract 1 (bs (headT x.1 x.2)).size).size ≤ 1000 := by rw [cut_rest, bs_size]; simp; omega
          obtain ⟨T, hT⟩ : ∃ T, bs (headT x.1 x.2) = T := ⟨_, rfl⟩
          rw [hT] at hcell hH hne1 HX hsz1
          clear hx he hxm hq hq' hne hh hsx hT
          go_wp2_with fail
          go_round
          case rel => exact ⟨j + 1, by omega, by go_num, by rw [HX.out]⟩
          case measure => simp [intOf]; omega
      · have g1 : ((K[j].toNat : Int) == 97) = false := by simp; omega
        have hq' : ¬ x.1.toNat = 97 := by rw [← he]; exact hq
        cases wr with
        | true =>
          have HX := Lib.hid (show bs (allTo true L (j + 1)) = bs (allTo true L j) by rw [HS.out]; simp [pick, writeT, hq'])
          clear hx he hxm hq hq' hh hsx hcell
          go_wp2_with fail
          go_round
          case rel => exact ⟨j + 1, by omega, by go_num, by rw [HX.out]⟩
          case measure => simp [intOf]; omega
        | false =>
          have HX := Lib.hid (show bs (allTo false L (j + 1)) = bs (allTo false L j) ++ bs (headT x.1 x.2) by rw [HS.out, bs_app]; simp [pick, readT, hq'])
          obtain ⟨T, hT⟩ : ∃ T, bs (headT x.1 x.2) = T := ⟨_, rfl⟩
          rw [hT] at hcell hH HX
          clear hx he hxm hq hq' hh hsx hT
          go_wp2_with fail
          go_round
          case rel => exact ⟨j + 1, by omega, by go_num, by rw [HX.out]⟩
          case measure => simp [intOf]; omega
    · obtain rfl : j = L.length := by omega
      rw [HAA.out] at hA ⊢
      have HL := Lib.hid (fun w => specVars (bs (L.map (pick wr)).flatten) false w (by omega))
      rw [bs_list] at HL
      go_wp2_with fail
      refine (HL.out _).mono ?_
      rintro e w2 ⟨rfl, rfl⟩
      go_wp2_with fail
      go_ret
      exact ⟨rfl, hb⟩
theorem specReadsOf (s : ByteArray) (w : World) (hs : s.size ≤ 1048576) : Calls Try.prog 36 #[.string s] w fun e w' => e = .returned (.string (vReads s)) ∧ Below w.heap.size w w' := by
  have hv := Lib.hid (fun w => specProgramValid s w hs)
  cases h : okS false 2 200 s with
  | false =>
    have H := Lib.hid (show vReads s = bs [] from progV_no _ _ h)
    rw [h] at hv
    clear h
    go_enter Try.func36, Try.ntmps36
    go_wp2_with fail
    refine (hv.out _).mono ?_
    rintro e w1 ⟨rfl, hb⟩
    go_wp2_with fail
    go_ret
    exact ⟨by rw [H.out]; rfl, hb⟩
  | true =>
    obtain ⟨hl, b, k, hi, rfl⟩ := okS_is h
    have H := Lib.hid (show vReads (bs (tx b k)) = _ from progV_is _ _ hi h)
    rw [h] at hv
    rw [bs_size, tx_size] at hl
    have HC := Lib.hid (fun w => specRead false b k w hi (by omega))
    obtain ⟨r, hr⟩ : ∃ r, bs (varsIn false ((pre b k).map (pick false)).flatten) = r := ⟨_, rfl⟩
    rw [hr] at HC H
    clear h hl hi hr
    go_enter Try.func36, Try.ntmps36
    go_wp2_with fail
    refine (hv.out _).mono ?_
    rintro e w1 ⟨rfl, hb⟩
    go_wp2_with fail
    refine (HC.out _).mono ?_
    rintro e w2 ⟨rfl, hb2⟩
    go_wp2_with fail
    go_ret
    exact ⟨by rw [H.out]; rfl, grew hb hb2⟩
theorem specWritesOf (s : ByteArray) (w : World) (hs : s.size ≤ 1048576) : Calls Try.prog 34 #[.string s] w fun e w' => e = .returned (.string (vWrites s)) ∧ Below w.heap.size w w' := by
  have hv := Lib.hid (fun w => specProgramValid s w hs)
  cases h : okS false 2 200 s with
  | false =>
    have H := Lib.hid (show vWrites s = bs [] from progV_no _ _ h)
    rw [h] at hv
    clear h
    go_enter Try.func34, Try.ntmps34
    go_wp2_with fail
    refine (hv.out _).mono ?_
    rintro e w1 ⟨rfl, hb⟩
    go_wp2_with fail
    go_ret
    exact ⟨by rw [H.out]; rfl, hb⟩
  | true =>
    obtain ⟨hl, b, k, hi, rfl⟩ := okS_is h
    have H := Lib.hid (show vWrites (bs (tx b k)) = _ from progV_is _ _ hi h)
    rw [h] at hv
    rw [bs_size, tx_size] at hl
    have HC := Lib.hid (fun w => specRead true b k w hi (by omega))
    obtain ⟨r, hr⟩ : ∃ r, bs (varsIn false ((pre b k).map (pick true)).flatten) = r := ⟨_, rfl⟩
    rw [hr] at HC H
    clear h hl hi hr
    go_enter Try.func34, Try.ntmps34
    go_wp2_with fail
    refine (hv.out _).mono ?_
    rintro e w1 ⟨rfl, hb⟩
    go_wp2_with fail
    refine (HC.out _).mono ?_
    rintro e w2 ⟨rfl, hb2⟩
    go_wp2_with fail
    go_ret
    exact ⟨by rw [H.out]; rfl, grew hb hb2⟩
theorem lawReadsOf (s : ByteArray) (w : World) (hs : s.size ≤ maxLen) : Calls Try.prog 12 #[.string s] w fun e w' => e = .returned (.bool true) ∧ Below w.heap.size w w' := by
  by_cases hbig : s.size ≤ 1048576
  · have h1 : (s.size : Int) ≤ 1048576 := by omega
    obtain ⟨r, hr⟩ : ∃ r, vReads s = r := ⟨_, rfl⟩
    have HA := Lib.hid (fun w => specReadsOf s w hbig)
    have HB := Lib.hid (fun w => implReadsOf s w hbig)
    rw [hr] at HA HB
    clear hr
    go_enter Try.func12, Try.ntmps12
    go_wp2_with (first
        | (go_at_call 36; refine (HA.out _).mono ?_; rintro e w1 ⟨rfl, hb1⟩)
        | (go_at_call 37; refine (HB.out _).mono ?_; rintro e w2 ⟨rfl, hb2⟩))
    go_ret
    exact ⟨rfl, grew hb1 hb2⟩
  · have h1 : (1048576 : Int) < (s.size : Int) := by omega
    go_enter Try.func12, Try.ntmps12
    go_wp2_with fail
    go_ret
    exact ⟨rfl, Below.refl _ _⟩
theorem lawWritesOf (s : ByteArray) (w : World) (hs : s.size ≤ maxLen) : Calls Try.prog 11 #[.string s] w fun e w' => e = .returned (.bool true) ∧ Below w.heap.size w w' := by
  by_cases hbig : s.size ≤ 1048576
  · have h1 : (s.size : Int) ≤ 1048576 := by omega
    obtain ⟨r, hr⟩ : ∃ r, vWrites s = r := ⟨_, rfl⟩
    have HA := Lib.hid (fun w => specWritesOf s w hbig)
    have HB := Lib.hid (fun w => implWritesOf s w hbig)
    rw [hr] at HA HB
    clear hr
    go_enter Try.func11, Try.ntmps11
    go_wp2_with (first
        | (go_at_call 34; refine (HA.out _).mono ?_; rintro e w1 ⟨rfl, hb1⟩)
        | (go_at_call 35; refine (HB.out _).mono ?_; rintro e w2 ⟨rfl, hb2⟩))
    go_ret
    exact ⟨rfl, grew hb1 hb2⟩
  · have h1 : (1048576 : Int) < (s.size : Int) := by omega
    go_enter Try.func11, Try.ntmps11
    go_wp2_with fail
    go_ret
    exact ⟨rfl, Below.refl _ _⟩
end Go.Proofs.Ytialodkhckaklaa.Rw
