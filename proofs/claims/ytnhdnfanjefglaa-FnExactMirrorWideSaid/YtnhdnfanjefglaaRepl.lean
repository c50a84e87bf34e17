/- Contracts: (*strings.byteReplacer).Replace over the letters' table. -/
import Derived.Test.YtnhdnfanjefglaaOnce
import Derived.Test.YtnhdnfanjefglaaSwap
import Derived.Lib.SliceRun
import Derived.WalkSpells
namespace Go.Proofs.Ytnhdnfanjefglaa.Rp
open Go.RowKit Go.Deep Go.Proofs.Ytnhdnfanjefglaa.Ro Go.Proofs.Ytnhdnfanjefglaa.Bu Go.Proofs.Ytnhdnfanjefglaa.Oc Go.Proofs.Ytnhdnfanjefglaa.Sp
set_option linter.unusedVariables false

theorem mir_lt {b : Nat} (h : b < 256) : mir b < 256 := by
  unfold mir
  split
  · omega
  · split <;> omega
/-- The byte of the other state. -/
def mu (b : UInt8) : UInt8 := UInt8.ofNat (mir b.toNat)
theorem mu_nat (b : UInt8) : (mu b).toNat = mir b.toNat := by
  have := mir_lt (UInt8.toNat_lt b)
  simp [mu]
  omega
def mirrored (s : ByteArray) : ByteArray := mk s.size fun i => mu (byt s i)
theorem mirrored_same {s : ByteArray} (h : ∀ j, j < s.size → mir (byt s j).toNat = (byt s j).toNat) : mirrored s = s := by
  have e : s.data.toList = (mirrored s).data.toList := by
    rw [mirrored, mk_list]
    apply List.ext_getElem?
    intro i
    by_cases hi : i < s.size
    · rw [List.getElem?_map, List.getElem?_range hi]
      have : mu (byt s i) = byt s i := UInt8.toNat_inj.1 (by rw [mu_nat]; exact h i hi)
      rw [Option.map_some, this, byt_at hi, List.getElem?_eq_getElem (by simpa using hi)]
      rfl
    · rw [List.getElem?_eq_none (by simpa using hi), List.getElem?_eq_none (by simpa using hi)]
  have e2 := Array.toList_inj.1 e
  cases s
  exact (congrArg ByteArray.mk e2).symm
/-- What stands in the row behind k rounds. -/
def muTo (s : ByteArray) (k j : Nat) : Value := if j < k then .int .u8 (mir (byt s j).toNat : Nat) else .int .u8 (byt s j).toNat
theorem mu_set {w : World} {b t n : Nat} {s : ByteArray} {k : Nat} (h : rowB w b t n (muTo s k)) {v : Value} (hv : v = .int .u8 (mir (byt s k).toNat : Nat)) : rowB (w.setCell ⟨b, k, none⟩ v) b t n (muTo s (k + 1)) :=
  (h.set k v).congr fun i _ => by
    subst hv
    unfold muTo
    by_cases e : i = k
    · subst e; simp
    · simp only [if_neg e]
      by_cases h1 : i < k
      · rw [if_pos h1, if_pos (by omega)]
      · rw [if_neg h1, if_neg (by omega)]
theorem mu_keep {w : World} {b t n : Nat} {s : ByteArray} {k : Nat} (h : rowB w b t n (muTo s k)) (hv : mir (byt s k).toNat = (byt s k).toNat) : rowB w b t n (muTo s (k + 1)) :=
  h.congr fun i _ => by
    unfold muTo
    by_cases e : i = k
    · subst e; simp [hv]
    · by_cases h1 : i < k
      · rw [if_pos h1, if_pos (by omega)]
      · rw [if_neg h1, if_neg (by omega)]
theorem mu_first {w : World} {b t n : Nat} {s : ByteArray} {k : Nat} (h : rowB w b t n (fun i => .int .u8 (byt s i).toNat)) (hv : ∀ j, j < k → mir (byt s j).toNat = (byt s j).toNat) : rowB w b t n (muTo s k) :=
  h.congr fun i _ => by
    unfold muTo
    by_cases h1 : i < k
    · rw [if_pos h1, hv i h1]
    · rw [if_neg h1]
theorem mu_all {w : World} {b t n : Nat} {s : ByteArray} (h : rowB w b t n (muTo s n)) : rowB w b t n (fun i => .int .u8 (mu (byt s i)).toNat) :=
  h.congr fun i hi => by simp only [muTo, if_pos hi, mu_nat]
theorem convMade (W : World) (s : ByteArray) : ∃ W1 c, (convert 9 30 (.string s)).run Try.prog W = .ok (.slice (some ⟨W.heap.size, 0, none⟩) s.size c) W1 ∧
    rowB W1 W.heap.size 5 s.size (fun i => .int .u8 (byt s i).toNat) ∧ Below W.heap.size W W1 :=
  ⟨_, _, convBack W s, rowB_made W.drew s _ _, ((Below.refl _ W).drew).alloc (Nat.le_refl _) _⟩

/-- The row of the text's bytes: not yet made, or made. -/
def Buf (base : Nat) (s : ByteArray) (k : Nat) (v : Value) (W : World) : Prop :=
  (v = .slice none 0 0 ∧ ∀ j, j < k → mir (byt s j).toNat = (byt s j).toNat) ∨ (∃ r c, v = .slice (some ⟨r, 0, none⟩) s.size c ∧ base ≤ r ∧ rowB W r 5 s.size (muTo s k))

set_option maxRecDepth 100000 in
set_option maxHeartbeats 8000000 in
theorem implByteReplace (q : Nat) (s : ByteArray) (w : World) (hq : w.rowIs q 70 256 (row8 mir)) (hs : s.size ≤ 1000000) :
    Calls Try.prog 85 #[.pointer (some ⟨q, 0, none⟩), .string s] w fun e w' => e = .returned (.string (mirrored s)) ∧ Below w.heap.size w w' := by
  have qT : ∀ (w : World) (a : Option Addr) (n c n' c' : Nat), (binOp .eql 30 (.slice a n c) (.slice none n' c')).run Try.prog w = .ok (.bool a.isNone) w := fun w a n c n' c' => Lib.run_eql_slice_nil w _ _ a n c n' c' Try.underlying30
  have HQ := Lib.hid hq
  clear hq
  go_enter Try.func85, Try.ntmps85
  go_wp2_with fail
  go_loopw [5, 6, 7] (fun buf i _ W => ∃ k : Nat, k ≤ s.size ∧ i = .int .i64 (k : Int) ∧ Below w.heap.size w W ∧ Buf w.heap.size s k buf W) (fun _ i _ _ => s.size - (intOf i).toNat)
  case atStart => exact ⟨0, Nat.zero_le _, rfl, Below.refl _ _, .inl ⟨rfl, fun j hj => by omega⟩⟩
  case round =>
    obtain ⟨k, hk, rfl, hb, hbuf⟩ := hrel
    have lq := HQ.out.lt
    have hrow := HQ.out.of_block (hb.block q lq)
    by_cases hlt : k < s.size
    · have hlt' : (k : Int) < (s.size : Int) := by omega
      have h256 := UInt8.toNat_lt (s[k])
      have h256' : ((s[k].toNat : Nat) : Int) < 256 := by omega
      have hcell : wr.cell? ⟨q, s[k].toNat, none⟩ = some (.int .u8 ((mir s[k].toNat : Nat) : Int)) := hrow.cell h256
      have HBY := Lib.hid (byt_at hlt)
      by_cases he : mir s[k].toNat = s[k].toNat
      · have hne : (((mir s[k].toNat : Nat) : Int) != ((s[k].toNat : Nat) : Int)) = false := by rw [he]; simp
        have HE := Lib.hid (show mir (byt s k).toNat = (byt s k).toNat by rw [HBY.out]; exact he)
        have HB := Lib.hid hb
        clear hb hrow lq he h256
        rcases hbuf with ⟨rfl, hsame⟩ | ⟨r, c, rfl, hr, hrB⟩
        · have HS := Lib.hid hsame
          clear hsame
          go_wp2_with fail
          go_roundw
          case rel => exact ⟨k + 1, by omega, by go_num, HB.out, .inl ⟨rfl, fun j hj => by
            by_cases e : j = k
            · subst e; exact HE.out
            · exact HS.out j (by omega)⟩⟩
          case measure => simp [intOf]; omega
        · have HS := Lib.hid (mu_keep hrB HE.out)
          have HR := Lib.hid hr
          clear hrB hr
          go_wp2_with fail
          go_roundw
          case rel => exact ⟨k + 1, by omega, by go_num, HB.out, .inr ⟨r, c, rfl, HR.out, HS.out⟩⟩
          case measure => simp [intOf]; omega
      · have hne : (((mir s[k].toNat : Nat) : Int) != ((s[k].toNat : Nat) : Int)) = true := by
          rw [bne_iff_ne]; intro e; exact he (by omega)
        have HV := Lib.hid (show (.int .u8 ((mir s[k].toNat : Nat) : Int) : Value) = .int .u8 (mir (byt s k).toNat : Nat) by rw [HBY.out])
        rcases hbuf with ⟨rfl, hsame⟩ | ⟨r, c, rfl, hr, hrB⟩
        · obtain ⟨W1, c1, hcv, r1, b1⟩ := convMade wr s
          have hle := hb.size
          have lq2 : q < wr.heap.size := by omega
          have hcell1 := (b1.cell (p := ⟨q, s[k].toNat, none⟩) lq2).trans hcell
          have r2 := mu_first r1 hsame
          have hc2 := r2.cell hlt
          have hf2 := r2.frozen hlt
          have HS := Lib.hid (mu_set r2 HV.out)
          have HB := Lib.hid ((hb.trans (b1.mono hle)).setCell (p := ⟨wr.heap.size, k, none⟩) hle (.int .u8 ((mir s[k].toNat : Nat) : Int)))
          have HL := Lib.hid hle
          clear hb hrow lq he h256 hsame r1 r2 b1 hle lq2
          go_wp2_with fail
          go_roundw
          case rel => exact ⟨k + 1, by omega, by go_num, HB.out, .inr ⟨_, _, rfl, HL.out, HS.out⟩⟩
          case measure => simp [intOf]; omega
        · have hc2 := hrB.cell hlt
          have hf2 := hrB.frozen hlt
          have HS := Lib.hid (mu_set hrB HV.out)
          have HB := Lib.hid (hb.setCell (p := ⟨r, k, none⟩) hr (.int .u8 ((mir s[k].toNat : Nat) : Int)))
          have HR := Lib.hid hr
          clear hb hrow lq he h256 hrB hr
          go_wp2_with fail
          go_roundw
          case rel => exact ⟨k + 1, by omega, by go_num, HB.out, .inr ⟨r, c, rfl, HR.out, HS.out⟩⟩
          case measure => simp [intOf]; omega
    · obtain rfl : k = s.size := by omega
      have HB := Lib.hid hb
      clear hb hrow lq
      rcases hbuf with ⟨rfl, hsame⟩ | ⟨r, c, rfl, hr, hrB⟩
      · have HS := Lib.hid (mirrored_same hsame)
        clear hsame
        go_wp2_with fail
        go_ret
        exact ⟨by rw [HS.out]; rfl, HB.out⟩
      · have hcv := convRow (cap := c) (mu_all hrB)
        clear hrB hr
        go_wp2_with fail
        go_ret
        exact ⟨rfl, HB.out⟩

theorem infoS : (Try.prog.info? 9).map (fun i => (i.zero, i.size, i.bytes)) = some (some (.string ⟨#[]⟩), 1, 16) := by kernel_rfl
theorem appMade (W : World) (g0 c0 : Nat) (hx : ∀ i, i < 12 → W.cell? ⟨g0, i, none⟩ = some (.string ⟨#[L i]⟩)) :
    ∃ W1 c, (Builtin.append_ #[33, 33] 33 #[.slice none 0 0, .slice (some ⟨g0, 0, none⟩) 12 c0]).run Try.prog W = .ok (.slice (some ⟨W.heap.size, 0, none⟩) 12 c) W1 ∧
      (∀ i, i < 12 → W1.cell? ⟨W.heap.size, i, none⟩ = some (.string ⟨#[L i]⟩)) ∧ Below W.heap.size W W1 ∧ W.heap.size < W1.heap.size := by
  obtain ⟨i0, hi0, he⟩ := Option.map_eq_some_iff.1 infoS
  simp only [Prod.mk.injEq] at he
  obtain ⟨hz, hs, hby⟩ := he
  have hl : ((List.range 12).map fun i => Value.string ⟨#[L i]⟩).length = 12 * i0.size := by rw [hs]; rfl
  have hr := run_append_nil (P := Try.prog) (w := W) 33 33 9 i0 (.string ⟨#[]⟩) Try.underlying33 hi0 hz ⟨g0, 0, none⟩ 12 c0 ((List.range 12).map fun i => Value.string ⟨#[L i]⟩) hl (fun j v hv => by
    have hj : j < 12 := by
      have := (List.getElem?_eq_some_iff.1 hv).1
      simpa using this
    have e : (⟨g0, 0, none⟩ : Addr).add j = ⟨g0, j, none⟩ := by unfold Addr.add; split <;> simp_all
    rw [e, hx j hj]
    rw [List.getElem?_map, List.getElem?_range hj] at hv
    exact hv) (by omega) (by omega) (by rw [hby]; omega)
  refine ⟨_, _, hr, fun i hi => ?_, ((Below.refl _ W).drew).alloc (Nat.le_refl _) _, by simp⟩
  have hb := blk_alloc_new W.drew (.cells (((List.range 12).map fun i => Value.string ⟨#[L i]⟩).toArray ++ Builtin.zeroCells (Value.string ⟨#[]⟩).cells (grownCap W 12 0 9 - 12)) 9)
  rw [show W.drew.heap.size = W.heap.size from rfl] at hb
  simp only [World.cell?, hb]
  rw [if_neg (by simp), Array.getElem?_append_left (by simpa using hi)]
  simp [hi]

theorem wpList_append_ran {P : Program} {w W1 : World} {ops : Array Oper} {rest : List Oper} {o : Oper} {a : Act} {Q : Exit → Act → World → Prop} (hgd : o.guard = none) (s x : Operand) (t : TypeId)
    (ho : o.op = .call { callee := .builtin .append, args := #[s, x], argTypes := #[t, t] }) (vs vx v : Value) (hs : a.eval s = vs) (hx : a.eval x = vx)
    (hrun : (Builtin.append_ #[t, t] o.type #[vs, vx]).run P w = .ok v W1) (hK : wpList P ops Q rest (a.put o.dst v) W1) : wpList P ops Q (o :: rest) a w := by
  refine wpList_plain hgd fun K hK' => ?_
  unfold Oper.wp
  simp [execOp, ho, resolve, invoke, builtin, hs, hx, hrun, Result.andThen]
  exact hK' _ _ hK

set_option maxRecDepth 100000 in
set_option maxHeartbeats 1600000 in
theorem implNewReplacer (g0 c0 : Nat) (w : World) (hx : ∀ i, i < 12 → w.cell? ⟨g0, i, none⟩ = some (.string ⟨#[L i]⟩)) :
    Calls Try.prog 9 #[.slice (some ⟨g0, 0, none⟩) 12 c0] w fun e w' => ∃ B g c, e = .returned (.pointer (some ⟨B, 0, none⟩)) ∧ g ≠ B ∧ w.heap.size ≤ B ∧
      w'.rowIs B 49 5 (rep 0 0 .nilIface (.slice (some ⟨g, 0, none⟩) 12 c)) ∧ (∀ i, i < 12 → w'.cell? ⟨g, i, none⟩ = some (.string ⟨#[L i]⟩)) ∧ Below w.heap.size w w' := by
  obtain ⟨W1, c, happ, hc, hb, hl⟩ := appMade w g0 c0 hx
  have HC := Lib.hid hc; have HB := Lib.hid hb; have HL := Lib.hid hl; have HA := Lib.hid happ
  clear hx hc hb hl happ
  go_enter Try.func9, Try.ntmps9
  go_wp2_with (refine wpList_append_ran rfl (.const (.slice none 0 0)) (.tmp 8) 33 rfl (.slice none 0 0) (.slice (some ⟨g0, 0, none⟩) 12 c0) (.slice (some ⟨w.heap.size, 0, none⟩) 12 c) rfl rfl HA.out ?_)
  go_ret
  have hl := HL.out
  exact ⟨W1.heap.size, w.heap.size, c, rfl, by omega, Nat.le_of_lt hl, World.rowIs_alloc W1 #[.int .u32 0, .int .i32 0, .int .u32 0, .nilIface, .slice (some ⟨w.heap.size, 0, none⟩) 12 c] _ _ (fun i hi => by
      rcases i with _ | _ | _ | _ | _ | i
      · rfl
      · rfl
      · rfl
      · rfl
      · rfl
      · simp at hi; omega), fun i hi => (World.cell?_alloc_past _ _ _ hl).trans (HC.out i hi), HB.out.alloc (Nat.le_of_lt hl) _⟩

/-- The table's method, by its name (255: the types' number and 100). -/
theorem methodReplace (a : Addr) (w : World) : (method 255 71 (.pointer (some a)) "Replace").run Try.prog w = .ok (85, .pointer (some a)) w := by kernel_rfl
set_option maxRecDepth 100000 in
set_option maxHeartbeats 1600000 in
theorem implReplace (B g c : Nat) (hgB : g ≠ B) (s : ByteArray) (hs : s.size ≤ 1000000) (w : World) (hB : w.rowIs B 49 5 (rep 0 0 .nilIface (.slice (some ⟨g, 0, none⟩) 12 c)))
    (hx : ∀ i, i < 12 → w.cell? ⟨g, i, none⟩ = some (.string ⟨#[L i]⟩)) :
    Calls Try.prog 10 #[.pointer (some ⟨B, 0, none⟩), .string s] w fun e w' => e = .returned (.string (mirrored s)) ∧ Below B w w' := by
  have hmf : ∀ (fn : Fn) (first cap : Array Value) (w : World), (Instr.makeFunc fn first cap).run Try.prog w = .ok (.func fn first cap) w := fun _ _ _ _ => rfl
  have HD := Lib.hid (implDo B g c hgB .nilIface w hB hx)
  have HL := Lib.hid hB.lt
  clear hx hB hgB
  go_enter Try.func10, Try.ntmps10
  go_wp2_with fail
  refine (HD.out).mono ?_
  rintro e w1 ⟨rfl, q, hq, hrow, hB1, hb⟩
  have h3 : w1.cell? ⟨B, 3, none⟩ = some (.iface 71 (.pointer (some ⟨q, 0, none⟩))) := hB1.cell (i := 3) (by omega)
  have HR := Lib.hid (implByteReplace q s w1 hrow hs)
  have HB := Lib.hid hb
  have hmr := methodReplace
  clear hq hrow hB1 hb
  go_wp2_with fail
  refine (HR.out).mono ?_
  rintro e w2 ⟨rfl, hb2⟩
  have HB2 := Lib.hid hb2
  clear hb2
  go_wp2_with fail
  go_ret
  exact ⟨rfl, HB.out.trans (HB2.out.mono (Nat.le_trans (Nat.le_of_lt HL.out) HB.out.size))⟩
end Go.Proofs.Ytnhdnfanjefglaa.Rp
