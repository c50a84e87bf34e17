/- Trees in memory: a forest's nodes lie in blocks of three cells (the byte, the slice of pointers to the parts, the text). No program in sight. -/
import Derived.Test.YtnhdnfanjefglaaStm
import Derived.WalkKit
import Derived.Below
import Derived.Deep.Heap
namespace Go.Proofs.Ytnhdnfanjefglaa.Pl
open Go.RowKit Go.Deep

def bs (l : List UInt8) : ByteArray := ⟨l.toArray⟩
theorem bs_list (l : List UInt8) : (bs l).data.toList = l := by simp [bs]
theorem bs_size (l : List UInt8) : (bs l).size = l.length := by simp [bs, ByteArray.size]
theorem bs_of {s : ByteArray} {l : List UInt8} (h : s.data.toList = l) : s = bs l := by cases s; simp at h; simp [bs, ← h]

/-- The slice of pointers to the blocks qs. -/
def kidsAt (S : Nat → Prop) (w : World) (v : Value) (qs : List Nat) : Prop :=
  (qs = [] ∧ v = .slice none 0 0) ∨
  qs ≠ [] ∧ ∃ g cap, (S g ∧ qs.length ≤ cap) ∧ v = .slice (some ⟨g, 0, none⟩) qs.length cap ∧ ∀ i q, qs[i]? = some q → w.cell? ⟨g, i, none⟩ = some (.pointer (some ⟨q, 0, none⟩))

/-- The forest lies in memory, in blocks of S; its members are the blocks ps. -/
def inW (S : Nat → Prop) (w : World) : F → List Nat → Prop
  | .nil, [] => True
  | .node b k n, p :: ps => S p ∧ w.cell? ⟨p, 0, none⟩ = some (.int .u8 (b.toNat : Int)) ∧ w.cell? ⟨p, 2, none⟩ = some (.string (bs (tx b k))) ∧
      (∃ v qs, w.cell? ⟨p, 1, none⟩ = some v ∧ kidsAt S w v qs ∧ inW S w k qs) ∧ inW S w n ps
  | _, _ => False

theorem lt_of_cell {w : World} {b o : Nat} {v : Value} (h : w.cell? ⟨b, o, none⟩ = some v) : b < w.heap.size := by
  unfold World.cell? at h
  split at h
  · rename_i hb; exact (Array.getElem?_eq_some_iff.1 hb).1
  · cases h

theorem cell_same {w w' : World} {b o : Nat} (h : w'.heap[b]? = w.heap[b]?) : w'.cell? ⟨b, o, none⟩ = w.cell? ⟨b, o, none⟩ := by
  unfold World.cell?; rw [h]

theorem kidsAt_stays {S S' : Nat → Prop} {w w' : World} (h : ∀ b, S b → b < w.heap.size → S' b ∧ w'.heap[b]? = w.heap[b]?) {v : Value} {qs : List Nat} (hk : kidsAt S w v qs) : kidsAt S' w' v qs := by
  rcases hk with hk | ⟨hq, g, cap, hg, hv, hc⟩
  · exact .inl hk
  · cases qs with
    | nil => exact absurd rfl hq
    | cons q qs =>
      obtain ⟨t1, t2⟩ := h g hg.1 (lt_of_cell (hc 0 q rfl))
      exact .inr ⟨hq, g, cap, ⟨t1, hg.2⟩, hv, fun i q hq => by rw [cell_same t2]; exact hc i q hq⟩

theorem inW_stays {S S' : Nat → Prop} {w w' : World} (h : ∀ b, S b → b < w.heap.size → S' b ∧ w'.heap[b]? = w.heap[b]?) : ∀ {t : F} {ps : List Nat}, inW S w t ps → inW S' w' t ps := by
  intro t
  induction t with
  | nil => intro ps hi; cases ps with
    | nil => trivial
    | cons p ps => exact hi.elim
  | node b k n ihk ihn =>
    intro ps hi
    cases ps with
    | nil => exact hi.elim
    | cons p ps =>
      obtain ⟨hp, h0, h2, ⟨v, qs, h1, hk, hkk⟩, hn⟩ := hi
      have hlt := lt_of_cell h0
      obtain ⟨s1, s2⟩ := h p hp hlt
      exact ⟨s1, by rw [cell_same s2]; exact h0, by rw [cell_same s2]; exact h2, ⟨v, qs, by rw [cell_same s2]; exact h1, kidsAt_stays h hk, ihk hkk⟩, ihn hn⟩

/-- The blocks of a tree lie in memory. -/
theorem inW_lt {S : Nat → Prop} {w : World} {t : F} {ps : List Nat} (h : inW S w t ps) : inW (fun b => S b ∧ b < w.heap.size) w t ps :=
  inW_stays (fun _ hb hl => ⟨⟨hb, hl⟩, rfl⟩) h
theorem inW_mono {S S' : Nat → Prop} {w : World} (hS : ∀ b, S b → S' b) {t : F} {ps : List Nat} (h : inW S w t ps) : inW S' w t ps :=
  inW_stays (fun b hb _ => ⟨hS b hb, rfl⟩) h
theorem inW_below {S : Nat → Prop} {w w' : World} (hb : Below w.heap.size w w') {t : F} {ps : List Nat} (h : inW S w t ps) : inW S w' t ps :=
  inW_stays (fun b hs hl => ⟨hs, hb.block b hl⟩) h

/-- A tree stands at a block. -/
def isT (w : World) (p : Nat) (b : UInt8) (k : F) : Prop := inW (fun _ => True) w (.node b k .nil) [p]
theorem isT_below {w w' : World} (hb : Below w.heap.size w w') {p : Nat} {b : UInt8} {k : F} (h : isT w p b k) : isT w' p b k := inW_below hb h
theorem isT_op {w : World} {p : Nat} {b : UInt8} {k : F} (h : isT w p b k) : w.cell? ⟨p, 0, none⟩ = some (.int .u8 (b.toNat : Int)) := h.2.1
theorem isT_text {w : World} {p : Nat} {b : UInt8} {k : F} (h : isT w p b k) : w.cell? ⟨p, 2, none⟩ = some (.string (bs (tx b k))) := h.2.2.1
theorem isT_none {w : World} {p : Nat} {b : UInt8} (h : isT w p b .nil) : w.cell? ⟨p, 1, none⟩ = some (.slice none 0 0) := by
  obtain ⟨_, _, _, ⟨v, qs, h1, hk, hkk⟩, _⟩ := h
  cases qs with
  | cons q qs => exact hkk.elim
  | nil =>
    rcases hk with ⟨_, rfl⟩ | ⟨hq, _⟩
    · exact h1
    · exact absurd rfl hq
theorem isT_one {w : World} {p : Nat} {b b1 : UInt8} {k1 : F} (h : isT w p b (.node b1 k1 .nil)) :
    ∃ g cap p1, w.cell? ⟨p, 1, none⟩ = some (.slice (some ⟨g, 0, none⟩) 1 cap) ∧ w.cell? ⟨g, 0, none⟩ = some (.pointer (some ⟨p1, 0, none⟩)) ∧ isT w p1 b1 k1 := by
  obtain ⟨_, _, _, ⟨v, qs, h1, hk, hkk⟩, _⟩ := h
  match qs, hkk, hk with
  | [p1], hkk, hk =>
    rcases hk with ⟨hq, _⟩ | ⟨_, g, cap, _, rfl, hc⟩
    · cases hq
    · exact ⟨g, cap, p1, h1, hc 0 p1 rfl, hkk.1, hkk.2.1, hkk.2.2.1, hkk.2.2.2.1, trivial⟩
  | _ :: _ :: _, hkk, _ => exact hkk.2.2.2.2.elim
theorem isT_two {w : World} {p : Nat} {b b1 b2 : UInt8} {k1 k2 : F} (h : isT w p b (.node b1 k1 (.node b2 k2 .nil))) :
    ∃ g cap p1 p2, w.cell? ⟨p, 1, none⟩ = some (.slice (some ⟨g, 0, none⟩) 2 cap) ∧ w.cell? ⟨g, 0, none⟩ = some (.pointer (some ⟨p1, 0, none⟩)) ∧
      w.cell? ⟨g, 1, none⟩ = some (.pointer (some ⟨p2, 0, none⟩)) ∧ isT w p1 b1 k1 ∧ isT w p2 b2 k2 := by
  obtain ⟨_, _, _, ⟨v, qs, h1, hk, hkk⟩, _⟩ := h
  match qs, hkk, hk with
  | [p1, p2], hkk, hk =>
    rcases hk with ⟨hq, _⟩ | ⟨_, g, cap, _, rfl, hc⟩
    · cases hq
    · obtain ⟨x1, x2, x3, x4, y1, y2, y3, y4, _⟩ := hkk
      exact ⟨g, cap, p1, p2, h1, hc 0 p1 rfl, hc 1 p2 rfl, ⟨x1, x2, x3, x4, trivial⟩, ⟨y1, y2, y3, y4, trivial⟩⟩
  | [_], hkk, _ => exact hkk.2.2.2.2.elim
  | _ :: _ :: _ :: _, hkk, _ => exact hkk.2.2.2.2.2.2.2.2.elim
theorem isT_three {w : World} {p : Nat} {b b1 b2 b3 : UInt8} {k1 k2 k3 : F} (h : isT w p b (.node b1 k1 (.node b2 k2 (.node b3 k3 .nil)))) :
    ∃ g cap p1 p2 p3, w.cell? ⟨p, 1, none⟩ = some (.slice (some ⟨g, 0, none⟩) 3 cap) ∧ w.cell? ⟨g, 0, none⟩ = some (.pointer (some ⟨p1, 0, none⟩)) ∧
      w.cell? ⟨g, 1, none⟩ = some (.pointer (some ⟨p2, 0, none⟩)) ∧ w.cell? ⟨g, 2, none⟩ = some (.pointer (some ⟨p3, 0, none⟩)) ∧ isT w p1 b1 k1 ∧ isT w p2 b2 k2 ∧ isT w p3 b3 k3 := by
  obtain ⟨_, _, _, ⟨v, qs, h1, hk, hkk⟩, _⟩ := h
  match qs, hkk, hk with
  | [p1, p2, p3], hkk, hk =>
    rcases hk with ⟨hq, _⟩ | ⟨_, g, cap, _, rfl, hc⟩
    · cases hq
    · obtain ⟨x1, x2, x3, x4, y1, y2, y3, y4, z1, z2, z3, z4, _⟩ := hkk
      exact ⟨g, cap, p1, p2, p3, h1, hc 0 p1 rfl, hc 1 p2 rfl, hc 2 p3 rfl, ⟨x1, x2, x3, x4, trivial⟩, ⟨y1, y2, y3, y4, trivial⟩, ⟨z1, z2, z3, z4, trivial⟩⟩
  | [_], hkk, _ => exact hkk.2.2.2.2.elim
  | [_, _], hkk, _ => exact hkk.2.2.2.2.2.2.2.2.elim
  | _ :: _ :: _ :: _ :: _, hkk, _ => exact hkk.2.2.2.2.2.2.2.2.2.2.2.2.elim
end Go.Proofs.Ytnhdnfanjefglaa.Pl
