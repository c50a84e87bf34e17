/- Contracts and law: PartsOf. -/
import Derived.Test.YtaimlfhbcgocnaaStrs
namespace Go.Proofs.Ytaimlfhbcgocnaa.Pv
open Go.RowKit Go.Deep Go.Sort Go.Proofs.Ytaimlfhbcgocnaa.Pl Go.Proofs.Ytaimlfhbcgocnaa.Bi Go.Proofs.Ytaimlfhbcgocnaa.Fi Go.Proofs.Ytaimlfhbcgocnaa.Ed Go.Proofs.Ytaimlfhbcgocnaa.Ps Go.Proofs.Ytaimlfhbcgocnaa.Sw Go.Proofs.Ytaimlfhbcgocnaa.Hd Go.Proofs.Ytaimlfhbcgocnaa.Pp Go.Proofs.Ytaimlfhbcgocnaa.Ea Go.Proofs.Ytaimlfhbcgocnaa.Sz Go.Proofs.Ytaimlfhbcgocnaa.Hs Go.Proofs.Ytaimlfhbcgocnaa.Sr
set_option linter.unusedVariables false

theorem kidsAt_imp {S S' : Nat → Prop} {w : World} (h : ∀ b, S b → (∃ o v, w.cell? ⟨b, o, none⟩ = some v) → S' b) {v : Value} {qs : List Nat} (hk : kidsAt S w v qs) : kidsAt S' w v qs := by
  rcases hk with hk | ⟨hq, g, cap, hg, hv, hc⟩
  · exact .inl hk
  · cases qs with
    | nil => exact absurd rfl hq
    | cons q qs => exact .inr ⟨hq, g, cap, ⟨h g hg.1 ⟨0, _, hc 0 q rfl⟩, hg.2⟩, hv, hc⟩
theorem inW_imp {S S' : Nat → Prop} {w : World} (h : ∀ b, S b → (∃ o v, w.cell? ⟨b, o, none⟩ = some v) → S' b) : ∀ {t : F} {ps : List Nat}, inW S w t ps → inW S' w t ps := by
  intro t
  induction t with
  | nil => intro ps hi; cases ps with
    | nil => trivial
    | cons p ps => exact hi.elim
  | node b k n ihk ihn =>
    intro ps hi
    cases ps with
    | nil => exact hi.elim
    | cons p ps =>
      obtain ⟨hp, h0, h2, ⟨v, qs, h1, hk, hkk⟩, hn⟩ := hi
      exact ⟨h p hp ⟨0, _, h0⟩, h0, h2, ⟨v, qs, h1, kidsAt_imp h hk, ihk hkk⟩, ihn hn⟩
/-- What the function answers. -/
def listV (s : ByteArray) : List ByteArray := progV false 200 (fun b k => (partsOf b k).map fun x => bs (tx x.1 x.2)) [] s
theorem listV_len (s : ByteArray) : (listV s).length ≤ 1000 := by
  unfold listV progV
  split
  · rename_i h
    obtain ⟨hl, b, k, hi, rfl⟩ := okS_is h
    have := P_is hi []
    rw [List.append_nil] at this
    rw [bs_list, this]
    simp only [List.length_map]
    have h1 := parts_len (b := b) (k := k)
    rw [bs_size, tx_size] at hl
    omega
  · simp
theorem strs_empty (w : World) (base : Nat) (hb : base ≤ w.heap.size) : strs base (w.alloc (.cells #[] 9)) (.slice (some ⟨w.heap.size, 0, none⟩) 0 0) ([] : List ByteArray) :=
  ⟨World.ownsRow_made w #[] 0 hb (by unfold maxLen; omega) rfl, by simp⟩
end Go.Proofs.Ytaimlfhbcgocnaa.Pv
