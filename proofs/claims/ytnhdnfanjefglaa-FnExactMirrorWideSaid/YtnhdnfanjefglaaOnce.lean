/- Contracts: sync.Once in a strings.Replacer: buildOnce, doSlow, Do, where it is not yet done. -/
import Derived.Test.YtnhdnfanjefglaaBuild
import Derived.Test.YtnhdnfanjefglaaLone
namespace Go.Proofs.Ytnhdnfanjefglaa.Oc
open Go.RowKit Go.Deep Go.Proofs.Ytnhdnfanjefglaa.Ro Go.Proofs.Ytnhdnfanjefglaa.Bu Go.Proofs.Ytnhdnfanjefglaa.Lo
set_option linter.unusedVariables false

/-- The cells of a Replacer: done, the lock's state, its mark, the table, the letters. -/
def rep (d s : Int) (r o : Value) (i : Nat) : Value := if i = 0 then .int .u32 d else if i = 1 then .int .i32 s else if i = 2 then .int .u32 0 else if i = 3 then r else o
theorem rep0 {w : World} {B t : Nat} {d s : Int} {r o : Value} (d' : Int) (h : w.rowIs B t 5 (rep d s r o)) : (w.setCell ⟨B, 0, none⟩ (.int .u32 d')).rowIs B t 5 (rep d' s r o) :=
  (h.set 0 _).congr fun i _ => by rcases i with _ | _ | _ | _ | i <;> simp [rep]
theorem rep1 {w : World} {B t : Nat} {d s : Int} {r o : Value} (s' : Int) (h : w.rowIs B t 5 (rep d s r o)) : (w.setCell ⟨B, 1, none⟩ (.int .i32 s')).rowIs B t 5 (rep d s' r o) :=
  (h.set 1 _).congr fun i _ => by rcases i with _ | _ | _ | _ | i <;> simp [rep]
theorem rep3 {w : World} {B t : Nat} {d s : Int} {r o : Value} (r' : Value) (h : w.rowIs B t 5 (rep d s r o)) : (w.setCell ⟨B, 3, none⟩ r').rowIs B t 5 (rep d s r' o) :=
  (h.set 3 _).congr fun i _ => by rcases i with _ | _ | _ | _ | i <;> simp [rep]
theorem rep4 {w : World} {B t : Nat} {d s : Int} {r o : Value} (o' : Value) (h : w.rowIs B t 5 (rep d s r o)) : (w.setCell ⟨B, 4, none⟩ o').rowIs B t 5 (rep d s r o') :=
  (h.set 4 _).congr fun i hi => by rcases i with _ | _ | _ | _ | _ | i <;> simp [rep]; omega

/-- What the letters' table leaves: a new block. -/
def Ready (B : Nat) (d s : Int) (w w' : World) : Prop :=
  ∃ q, w.heap.size ≤ q ∧ w'.rowIs q 70 256 (row8 mir) ∧ w'.rowIs B 49 5 (rep d s (.iface 71 (.pointer (some ⟨q, 0, none⟩))) (.slice none 0 0)) ∧ Below B w w'

set_option maxRecDepth 100000 in
set_option maxHeartbeats 1600000 in
theorem implBuildOnce (B g c : Nat) (d s : Int) (x3 : Value) (w : World) (hB : w.rowIs B 49 5 (rep d s x3 (.slice (some ⟨g, 0, none⟩) 12 c)))
    (hx : ∀ i, i < 12 → w.cell? ⟨g, i, none⟩ = some (.string ⟨#[L i]⟩)) :
    Calls Try.prog 14 #[.pointer (some ⟨B, 0, none⟩)] w fun e w' => e = .returned (.tuple #[]) ∧ Ready B d s w w' := by
  have HC := Lib.hid (implBuild B g c w (hB.cell (i := 4) (by omega)) hx)
  have HL := Lib.hid hB.lt
  have HB := Lib.hid hB
  clear hx hB
  go_enter Try.func14, Try.ntmps14
  go_wp2_with fail
  refine (HC.out).mono ?_
  rintro e w1 ⟨q, rfl, hq, hrow, hb⟩
  have lb := HL.out
  have hB1 := HB.out.of_block (hb.block B lb)
  have h3 : w1.cell? ⟨B, 3, none⟩ = some x3 := hB1.cell (i := 3) (by omega)
  have f3 := hB1.frozen 3
  have hB2 := rep3 (.iface 71 (.pointer (some ⟨q, 0, none⟩))) hB1
  have h4 := hB2.cell (i := 4) (by omega)
  have f4 := hB2.frozen 4
  have HR := Lib.hid (rep4 (.slice none 0 0) hB2)
  have HQ := Lib.hid ((hrow.setOther (a := ⟨B, 3, none⟩) (show q ≠ B by omega) (.iface 71 (.pointer (some ⟨q, 0, none⟩)))).setOther (a := ⟨B, 4, none⟩) (show q ≠ B by omega) (.slice none 0 0))
  have HW := Lib.hid (((hb.mono (Nat.le_of_lt lb)).setCell (p := ⟨B, 3, none⟩) (Nat.le_refl _) (.iface 71 (.pointer (some ⟨q, 0, none⟩)))).setCell (p := ⟨B, 4, none⟩) (Nat.le_refl _) (.slice none 0 0))
  have HN := Lib.hid hq
  clear hrow hb hB1 hB2 lb hq
  go_wp2_with fail
  go_end0
  exact ⟨rfl, q, HN.out, HQ.out, HR.out, HW.out⟩

set_option maxRecDepth 100000 in
set_option maxHeartbeats 3200000 in
theorem implDoSlow (B g c : Nat) (hgB : g ≠ B) (x3 : Value) (w : World) (hB : w.rowIs B 49 5 (rep 0 0 x3 (.slice (some ⟨g, 0, none⟩) 12 c)))
    (hx : ∀ i, i < 12 → w.cell? ⟨g, i, none⟩ = some (.string ⟨#[L i]⟩)) :
    Calls Try.prog 21 #[.pointer (some ⟨B, 0, none⟩), .func (.func 14) #[.pointer (some ⟨B, 0, none⟩)] #[]] w fun e w' => e = .returned (.tuple #[]) ∧ Ready B 1 0 w w' := by
  have c1 : w.cell? ⟨B, 1, none⟩ = some (.int .i32 0) := hB.cell (i := 1) (by omega)
  have f1 := hB.frozen 1
  have hB1 := rep1 1 hB
  have lb := hB1.lt
  have hl := run_call_load (P := Try.prog) Try.func24 (by kernel_rfl) (by kernel_rfl) (by kernel_rfl) .u32 (by kernel_rfl) (w := w.setCell ⟨B, 1, none⟩ (.int .i32 1)) (a := ⟨B, 0, none⟩) (x := 0) (hB1.cell (i := 0) (by omega))
  have HO := Lib.hid (implBuildOnce B g c 0 1 x3 (w.setCell ⟨B, 1, none⟩ (.int .i32 1)) hB1 (fun i hi => (World.cell?_setCell_other w ⟨B, 1, none⟩ ⟨g, i, none⟩ _ (by intro h; injection h with h; exact hgB h.symm)).trans (hx i hi)))
  have hnot : ∀ (x : Bool) (w : World), (Op.unary .not (.bool x)).run Try.prog w = .ok (.bool (!x)) w := fun _ _ => rfl
  have LB := Lib.hid lb
  have HG := Lib.hid hgB
  clear hx hB hB1 lb hgB
  go_enter_defers Try.func21, Try.ntmps21
  go_wp2_with (first
    | (go_at_call 25; refine (lock_free ⟨B, 1, none⟩ _ c1 f1).mono ?_; rintro e w' ⟨rfl, rfl⟩)
    | (go_at_call 20; go_in))
  refine (HO.out).mono ?_
  rintro e w' ⟨rfl, q, hq, hrow, hB2, hb⟩
  have hq' := Lib.hid hq; have hrow' := Lib.hid hrow; have hB2' := Lib.hid hB2; have hb' := Lib.hid hb
  clear hq hrow hB2 hb
  go_wp2_with fail
  show Leaves _ _ _ _ _ _ _
  have g0 := hB2'.out.cell (i := 0) (by omega)
  have z0 := hB2'.out.frozen 0
  refine leaves_cons (f := 27) (args := #[.pointer (some ⟨B, 0, none⟩), .bool true]) (by simp) (by simp [go_sem]) ?_
  refine (store_deferred ⟨B, 0, none⟩ (.int .u32 0) .returning _ g0 z0).mono ?_
  rintro e u' w'' ⟨rfl, rfl, rfl⟩
  have hB3 := rep0 1 hB2'.out.drew
  have g1 := hB3.cell (i := 1) (by omega)
  have z1 := hB3.frozen 1
  refine leaves_cons (f := 26) (args := #[.pointer (some ⟨B, 1, none⟩)]) (by simp [settle]) (by simp [go_sem]) ?_
  refine (unlock_deferred ⟨B, 1, none⟩ _ _ g1 z1).mono ?_
  rintro e u' w'' ⟨rfl, rfl, rfl⟩
  have hne : q ≠ B := by
    have h1 := hq'.out; have h2 := LB.out
    omega
  have HF : Ready B 1 0 w ((w'.drew.setCell ⟨B, 0, none⟩ (.int .u32 1)).setCell ⟨B, 1, none⟩ (.int .i32 0)) := by
    refine ⟨q, ?_, ((hrow'.out.drew).setOther hne _).setOther hne _, rep1 0 hB3, ?_⟩
    · have := hq'.out
      simpa [World.setCell] using this
    · exact (((((Below.refl B w).setCell (p := ⟨B, 1, none⟩) (Nat.le_refl _) _).trans hb'.out).drew).setCell (p := ⟨B, 0, none⟩) (Nat.le_refl _) _).setCell (p := ⟨B, 1, none⟩) (Nat.le_refl _) _
  have HF' := Lib.hid HF
  clear HF hB3 g0 g1
  simp [Leaves, settle, results, Try.results21]
  exact HF'.out

set_option maxRecDepth 100000 in
set_option maxHeartbeats 1600000 in
theorem implDo (B g c : Nat) (hgB : g ≠ B) (x3 : Value) (w : World) (hB : w.rowIs B 49 5 (rep 0 0 x3 (.slice (some ⟨g, 0, none⟩) 12 c)))
    (hx : ∀ i, i < 12 → w.cell? ⟨g, i, none⟩ = some (.string ⟨#[L i]⟩)) :
    Calls Try.prog 13 #[.pointer (some ⟨B, 0, none⟩), .func (.func 14) #[.pointer (some ⟨B, 0, none⟩)] #[]] w fun e w' => e = .returned (.tuple #[]) ∧ Ready B 1 0 w w' := by
  have hl := run_call_load (P := Try.prog) Try.func24 (by kernel_rfl) (by kernel_rfl) (by kernel_rfl) .u32 (by kernel_rfl) (w := w) (a := ⟨B, 0, none⟩) (x := 0) (hB.cell (i := 0) (by omega))
  have HS := Lib.hid (implDoSlow B g c hgB x3 w hB hx)
  have hnot : ∀ (x : Bool) (w : World), (Op.unary .not (.bool x)).run Try.prog w = .ok (.bool (!x)) w := fun _ _ => rfl
  clear hB hx hgB
  go_enter Try.func13, Try.ntmps13
  go_wp2_with (go_at_call 20; go_in)
  refine (HS.out).mono ?_
  rintro e w' ⟨rfl, hr⟩
  have HR := Lib.hid hr
  clear hr
  go_wp2_with fail
  go_end0
  exact ⟨rfl, HR.out⟩
end Go.Proofs.Ytnhdnfanjefglaa.Oc
