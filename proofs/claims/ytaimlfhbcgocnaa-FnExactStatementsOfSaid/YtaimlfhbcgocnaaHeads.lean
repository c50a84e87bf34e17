/- Contract: l3Heads: the heads of all statements, and their letters. -/
import Derived.Test.YtaimlfhbcgocnaaSize
namespace Go.Proofs.Ytaimlfhbcgocnaa.Hs
open Go.RowKit Go.Deep Go.Proofs.Ytaimlfhbcgocnaa.Pl Go.Proofs.Ytaimlfhbcgocnaa.Bi Go.Proofs.Ytaimlfhbcgocnaa.Fi Go.Proofs.Ytaimlfhbcgocnaa.Ed Go.Proofs.Ytaimlfhbcgocnaa.Ps Go.Proofs.Ytaimlfhbcgocnaa.Sw Go.Proofs.Ytaimlfhbcgocnaa.Hd Go.Proofs.Ytaimlfhbcgocnaa.Pp Go.Proofs.Ytaimlfhbcgocnaa.Ea Go.Proofs.Ytaimlfhbcgocnaa.Sz
set_option linter.unusedVariables false

section
variable {P : Program} {w : World} {ops : Array Oper} {rest : List Oper} {o : Oper} {a : Act} {Q : Exit → Act → World → Prop}
/-- Some more elements are appended: the row is the one that it was, or a new one. -/
theorem wpList_append_more (hgd : o.guard = none) (s x : Operand) (t : TypeId) (ho : o.op = .call { callee := .builtin .append, args := #[s, x], argTypes := #[t, t] })
    (base : Nat) (e : TypeId) (i : TypeInfo) (z : Value) (bytes : Nat) (ht : P.underlying t = some (.slice e)) (hi : P.info? e = some i) (hz : i.zero = some z) (hsize : i.size = 1) (hby : i.bytes = bytes) (hb16 : bytes ≤ 16) (hzs : z.cells.size = 1)
    (v : Value) (xs : List Value) (hs : a.eval s = v) (hown : w.ownsRow base e 1 v xs.length xs) (ad : Addr) (m c : Nat) (news : List Value) (hx : a.eval x = .slice (some ad) m c) (hl : news.length = m)
    (hnews : ∀ j u, news[j]? = some u → w.cell? (ad.add j) = some u) (h1 : ∀ u ∈ news, u.oneCell' = true) (hne : 0 < m) (hlen : xs.length + m ≤ 1000000) (hbase : base ≤ w.heap.size)
    (hK : ∀ v' w', w'.ownsRow base e 1 v' (xs ++ news).length (xs ++ news) → w.grownBy w' v.ownBlock → (v'.ownBlock = v.ownBlock ∨ ∃ g, v'.ownBlock = some g ∧ w.heap.size ≤ g) → wpList P ops Q rest (a.put o.dst v') w') :
    wpList P ops Q (o :: rest) a w := by
  have hll : (xs ++ news).length = xs.length + m := by simp [hl]
  rw [hll] at hK
  have hby2 : (xs.length + m) * bytes ≤ 140737488355328 := Nat.le_trans (Nat.mul_le_mul hlen hb16) (by omega)
  rcases hown.2 with ⟨hv, hn⟩ | ⟨g, cap, cur, hv, hg, hh, hcap, hcm, hcs, htk⟩
  · have hnil : xs = [] := List.eq_nil_of_length_eq_zero hn
    subst hnil
    refine wpList_append_grows w hgd s x t ho e i z 1 bytes ht hi hz hsize hby hzs (by omega) none 0 0 [] (hs.trans hv) (fun _ => ⟨rfl, rfl⟩) rfl (fun _ h => by cases h) ad m c news hx (by omega) hnews h1 (by omega) (by unfold maxLen; simp at hlen ⊢; omega) (by simpa using hby2) ?_
    intro v' w' ho' hg'
    refine hK v' w' (owns_mono (by simpa using ho') hbase) (grown_any hg') (.inr ?_)
    rcases ho'.2 with ⟨_, h0⟩ | ⟨g, cap, cur, hv', hgg, _⟩
    · omega
    · exact ⟨g, by rw [hv']; rfl, hgg⟩
  · subst hv
    by_cases hroom : xs.length + m ≤ cap
    · refine wpList_append_fits w hgd s x t ho base e i 1 ht hi hsize g xs.length cap xs hs hown ad m c news hx (by omega) hnews h1 hroom ?_
      intro w' ho' hg'
      exact hK _ w' ho' hg' (.inl rfl)
    · refine wpList_append_grows w hgd s x t ho e i z 1 bytes ht hi hz hsize hby hzs (by omega) (some ⟨g, 0, none⟩) xs.length cap xs hs (fun h => by cases h) (by simp) (fun b hb j u hj => by
        cases hb; exact hown.cells rfl j u hj) ad m c news hx (by omega) hnews h1 (by omega) (by unfold maxLen; omega) hby2 ?_
      intro v' w' ho' hg'
      refine hK v' w' (owns_mono ho' hbase) (grown_any hg') (.inr ?_)
      rcases ho'.2 with ⟨_, h0⟩ | ⟨g', cap', cur', hv', hgg, _⟩
      · omega
      · exact ⟨g', by rw [hv']; rfl, hgg⟩
end
theorem strs_ne {base : Nat} {w w' : World} {v v' : Value} {xs ys : List ByteArray} (h : strs base w v xs) (hn : v'.ownBlock = v.ownBlock ∨ ∃ g, v'.ownBlock = some g ∧ w.heap.size ≤ g) : v' ≠ .slice none 0 0 := by
  intro e
  subst e
  obtain ⟨g, cap, rfl, _⟩ := strs_form h
  rcases hn with hn | ⟨g', hn, _⟩ <;> cases hn
theorem strs_all {base : Nat} {w : World} {v : Value} {xs : List ByteArray} (h : strs base w v xs) {g : Nat} (hg : v.ownBlock = some g) : ∀ j u, (xs.map Value.string)[j]? = some u → w.cell? ((⟨g, 0, none⟩ : Addr).add j) = some u := h.1.cells hg
theorem strs_one (xs : List ByteArray) : ∀ u ∈ xs.map Value.string, u.oneCell' = true := by
  intro u hu
  obtain ⟨x, _, rfl⟩ := List.mem_map.1 hu
  rfl
theorem strs_kept {base : Nat} {w w' : World} {v : Value} {xs : List ByteArray} {row : Option Nat} (h : strs base w v xs) (hg : w.grownBy w' row) (hne : v.ownBlock ≠ row) : strs base w' v xs := ⟨h.1.kept hg (.inr hne), h.2⟩
/-- A new row out of a literal of one element. -/
theorem strs_lit (w : World) (x : ByteArray) (base : Nat) (hb : base ≤ w.heap.size) : strs base (w.alloc (.cells #[.string x] 9)) (.slice (some ⟨w.heap.size, 0, none⟩) 1 1) [x] :=
  ⟨⟨rfl, .inr ⟨w.heap.size, 1, #[.string x], rfl, hb, blk_alloc_new _ _, Nat.le_refl _, by unfold maxLen; omega, rfl, rfl⟩⟩, by simp⟩
theorem cut_one (b : UInt8) (l : List UInt8) : (bs (b :: l)).extract 0 1 = bs [b] := by
  refine bs_of ?_
  simp [bs, ByteArray.data_extract]
theorem strs_cell {base : Nat} {w : World} {xs : List ByteArray} {g n c : Nat} (h : strs base w (.slice (some ⟨g, 0, none⟩) n c) xs) {i : Nat} {x : ByteArray} (hx : xs[i]? = some x) : w.cell? ⟨g, i, none⟩ = some (.string x) := by
  have := strs_all h (g := g) rfl i (.string x) (by rw [List.getElem?_map, hx]; rfl)
  have e : (⟨g, 0, none⟩ : Addr).add i = ⟨g, i, none⟩ := by unfold Addr.add; split <;> simp_all
  rw [e] at this
  exact this
theorem app_more {base : Nat} {w3 w4 : World} {v' : Value} {ys zs : List ByteArray} {g n c : Nat} (h : strs base w3 (.slice (some ⟨g, 0, none⟩) n c) ys)
    (ho : w4.ownsRow base 9 1 v' (ys.map Value.string ++ zs.map Value.string).length (ys.map Value.string ++ zs.map Value.string)) (hg : w3.grownBy w4 (some g))
    (hn : v'.ownBlock = some g ∨ ∃ g', v'.ownBlock = some g' ∧ w3.heap.size ≤ g') :
    (∃ g' c', v' = .slice (some ⟨g', 0, none⟩) (ys ++ zs).length c' ∧ (g' = g ∨ w3.heap.size ≤ g')) ∧ strs base w4 v' (ys ++ zs) ∧ (∀ B W, B ≤ base → Below B W w3 → B ≤ w3.heap.size → Below B W w4) ∧ w3.heap.size ≤ w4.heap.size := by
  have hl : (ys.map Value.string ++ zs.map Value.string).length = (ys ++ zs).length := by simp
  rw [hl, ← List.map_append] at ho
  have hne : v' ≠ .slice none 0 0 := by
    intro e
    subst e
    rcases hn with hn | ⟨g', hn, _⟩ <;> cases hn
  refine ⟨?_, ⟨ho, hne⟩, fun B W hB hb hl => hb.grown hg hl fun k hk => ?_, hg.size⟩
  · rcases ho.2 with ⟨e, _⟩ | ⟨g1, cap, cur, e, _⟩
    · exact absurd e hne
    · refine ⟨g1, cap, e, ?_⟩
      subst e
      rcases hn with hn | ⟨g', hn, hs⟩
      · cases hn; exact .inl rfl
      · cases hn; exact .inr hs
  · cases hk
    exact Nat.le_trans hB (h.1.lt g rfl).1
def headsL (l : List (UInt8 × F)) : List ByteArray := l.map fun x => bs (headT x.1 x.2)
def kindsL (l : List (UInt8 × F)) : List UInt8 := l.map fun x => x.1
end Go.Proofs.Ytaimlfhbcgocnaa.Hs
