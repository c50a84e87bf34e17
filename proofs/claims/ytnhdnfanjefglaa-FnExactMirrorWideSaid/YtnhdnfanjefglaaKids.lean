/- For the reader's walk: the append of one more part; what a round does to the world; the parse told part by part. -/
import Derived.Test.YtnhdnfanjefglaaHeap
import Derived.ArgAppend
import Derived.OwnWalk
import Derived.Laws.Rows
namespace Go.Proofs.Ytnhdnfanjefglaa.Pl
open Go.RowKit Go.Deep

def ptr (q : Nat) : Value := .pointer (some ⟨q, 0, none⟩)

/-! ### The parse, part by part -/
def F.app : F → F → F
  | .nil, t => t
  | .node b k n, t => .node b k (n.app t)
theorem app_nil : ∀ t : F, t.app .nil = t
  | .nil => rfl
  | .node b k n => by simp [F.app, app_nil n]
theorem app_assoc : ∀ a b c : F, (a.app b).app c = a.app (b.app c)
  | .nil, _, _ => rfl
  | .node x k n, b, c => by simp [F.app, app_assoc n b c]
theorem text_app : ∀ a b : F, (a.app b).text = a.text ++ b.text
  | .nil, _ => rfl
  | .node x k n, b => by simp [F.app, F.text, text_app n b]
theorem len_app : ∀ a b : F, (a.app b).len = a.len + b.len
  | .nil, _ => by simp [F.app, F.len]
  | .node x k n, b => by simp [F.app, F.len, len_app n b]; omega
theorem P_split (wide : Bool) (s : Nat) (ws : List Nat) (l : List UInt8) : P wide (s :: ws) l =
    match P wide [s] l with
    | none => none
    | some (t, l1) => (P wide ws l1).map fun x => (t.app x.1, x.2) := by
  cases l with
  | nil => rw [P_end, P_end]
  | cons b l =>
    rw [P_cons, P_cons]
    cases wants wide s b.toNat with
    | none => rfl
    | some ks =>
      simp only
      cases P wide ks l with
      | none => rfl
      | some x =>
        obtain ⟨k, l1⟩ := x
        simp only [P_nil]
        cases P wide ws l1 with
        | none => rfl
        | some y => rfl
theorem P_first {wide : Bool} {s : Nat} {l : List UInt8} {b : UInt8} {r : List UInt8} (h : l = b :: r) : P wide [s] l =
    match wants wide s b.toNat with
    | none => none
    | some ks => (P wide ks r).map fun x => (.node b x.1 .nil, x.2) := by
  subst h
  rw [P_cons]
  cases wants wide s b.toNat with
  | none => rfl
  | some ks =>
    simp only
    cases P wide ks r with
    | none => rfl
    | some x => simp [P_nil]

/-! ### Memory -/
theorem inW_app {S : Nat → Prop} {w : World} : ∀ {t : F} {ps : List Nat} {u : F} {qs : List Nat}, inW S w t ps → inW S w u qs → inW S w (t.app u) (ps ++ qs)
  | .nil, [], _, _, _, hu => hu
  | .nil, _ :: _, _, _, ht, _ => ht.elim
  | .node _ _ _, [], _, _, ht, _ => ht.elim
  | .node _ _ _, _ :: _, _, _, ⟨h1, h2, h3, h4, h5⟩, hu => ⟨h1, h2, h3, h4, inW_app h5 hu⟩
theorem inW_len {S : Nat → Prop} {w : World} : ∀ {t : F} {ps : List Nat}, inW S w t ps → ps.length = t.len
  | .nil, [], _ => rfl
  | .nil, _ :: _, h => h.elim
  | .node _ _ _, [], h => h.elim
  | .node _ _ _, _ :: _, ⟨_, _, _, _, h⟩ => by simp [F.len, inW_len h]
theorem setCell_heap (w : World) (p : Addr) (v : Value) (k : Nat) : (w.setCell p v).heap[k]? = if k = p.block then (w.heap[k]?).map (fun | .cells c elem frozen => .cells (if p.spot.isSome then c else c.setIfInBounds p.off v) elem frozen | o => o) else w.heap[k]? := by
  simp only [World.setCell, Array.getElem?_modify]
  by_cases h : k = p.block
  · subst h; simp; rfl
  · rw [if_neg h, if_neg (fun e => h e.symm)]
/-- The same cell written anew. -/
theorem below_set {B : Nat} {w wr w1 : World} {rb : Nat} {o : Nat} {u v : Value} (h : Below B (w.setCell ⟨rb, o, none⟩ u) wr) (h1 : Below wr.heap.size (wr.setCell ⟨rb, o, none⟩ v) w1) (hB : B ≤ wr.heap.size) : Below B (w.setCell ⟨rb, o, none⟩ v) w1 := by
  have e : ∀ (W : World) (p : Addr) (x : Value), (W.setCell p x).heap.size = W.heap.size := fun W p x => by simp [World.setCell]
  refine ⟨h1.os.trans h.os, h1.tape.trans h.tape, h1.output.trans h.output, ?_, fun k hk => ?_⟩
  · have a := h.size
    have b := h1.size
    rw [e] at a b
    rw [e]
    omega
  · rw [h1.block k (by omega), setCell_heap, setCell_heap]
    by_cases hkr : k = rb
    · subst hkr
      simp only [if_true]
      have hb := h.block k hk
      rw [setCell_heap] at hb
      simp only [if_true] at hb
      rw [hb]
      cases w.heap[k]? with
      | none => rfl
      | some ob =>
        cases ob <;> simp
    · simp only [if_neg hkr]
      have hb := h.block k hk
      rw [setCell_heap] at hb
      simp only [if_neg hkr] at hb
      exact hb
theorem below_set_mono {B : Nat} {w wr : World} {rb o : Nat} {v : Value} (h : Below B w wr) (hrb : B ≤ rb) : Below B w (wr.setCell ⟨rb, o, none⟩ v) := h.setCell hrb v

section
variable {P : Program} {w : World} {ops : Array Oper} {rest : List Oper} {o : Oper} {a : Act} {Q : Exit → Act → World → Prop}
theorem owns_mono {base base' : Nat} {e : TypeId} {size : Nat} {v : Value} {n : Nat} {xs : List Value} (h : w.ownsRow base e size v n xs) (hb : base' ≤ base) : w.ownsRow base' e size v n xs := by
  obtain ⟨h1, h2⟩ := h
  refine ⟨h1, ?_⟩
  rcases h2 with h2 | ⟨g, cap, cur, hv, hg, r⟩
  · exact .inl h2
  · exact .inr ⟨g, cap, cur, hv, by omega, r⟩
theorem grown_any {w w' : World} {row : Option Nat} (h : w.grownBy w' none) : w.grownBy w' row := ⟨h.os, h.tape, h.output, h.size, fun k hk _ => h.block k hk (by simp)⟩
/-- One more part is appended: the row is the one that it was, or a new one. -/
theorem wpList_append_kid (hgd : o.guard = none) (s x : Operand) (t : TypeId) (ho : o.op = .call { callee := .builtin .append, args := #[s, x], argTypes := #[t, t] })
    (base : Nat) (e : TypeId) (i : TypeInfo) (z : Value) (ht : P.underlying t = some (.slice e)) (hi : P.info? e = some i) (hz : i.zero = some z) (hsize : i.size = 1) (hby : i.bytes = 8) (hzs : z.cells.size = 1)
    (v : Value) (qs : List Nat) (q : Nat) (hs : a.eval s = v) (hown : w.ownsRow base e 1 v qs.length (qs.map ptr)) (ad : Addr) (c : Nat) (hx : a.eval x = .slice (some ad) 1 c) (hc : w.cell? (ad.add 0) = some (ptr q))
    (hlen : qs.length ≤ 1000000) (hbase : base ≤ w.heap.size)
    (hK : ∀ v' w', w'.ownsRow base e 1 v' (qs ++ [q]).length ((qs ++ [q]).map ptr) → w.grownBy w' v.ownBlock → (v'.ownBlock = v.ownBlock ∨ ∃ g, v'.ownBlock = some g ∧ w.heap.size ≤ g) → wpList P ops Q rest (a.put o.dst v') w') :
    wpList P ops Q (o :: rest) a w := by
  have hnews : ∀ j u, [ptr q][j]? = some u → w.cell? (ad.add j) = some u := by
    intro j u hj
    match j, hj with
    | 0, hj => simp at hj; subst hj; exact hc
    | j + 1, hj => simp at hj
  have h1 : ∀ u ∈ [ptr q], u.oneCell' = true := by intro u hu; simp at hu; subst hu; rfl
  have hl : (qs ++ [q]).length = qs.length + 1 := by simp
  have hm : (qs ++ [q]).map ptr = qs.map ptr ++ [ptr q] := by simp
  rw [hl, hm] at hK
  rcases hown.2 with ⟨hv, hn⟩ | ⟨g, cap, cur, hv, hg, hh, hcap, hcm, hcs, htk⟩
  · have hnil : qs = [] := List.eq_nil_of_length_eq_zero hn
    subst hnil
    refine wpList_append_grows w hgd s x t ho e i z 1 8 ht hi hz hsize hby hzs (by omega) none 0 0 [] (hs.trans hv) (fun _ => ⟨rfl, rfl⟩) rfl (fun _ h => by cases h) ad 1 c [ptr q] hx rfl hnews h1 (by omega) (by unfold maxLen; omega) (by omega) ?_
    intro v' w' ho' hg'
    refine hK v' w' (owns_mono ho' hbase) (grown_any hg') (.inr ?_)
    rcases ho'.2 with ⟨_, h0⟩ | ⟨g, cap, cur, hv', hgg, _⟩
    · simp at h0
    · exact ⟨g, by rw [hv']; rfl, hgg⟩
  · subst hv
    by_cases hroom : qs.length + 1 ≤ cap
    · refine wpList_append_fits w hgd s x t ho base e i 1 ht hi hsize g qs.length cap (qs.map ptr) hs hown ad 1 c [ptr q] hx rfl hnews h1 hroom ?_
      intro w' ho' hg'
      exact hK _ w' ho' hg' (.inl rfl)
    · refine wpList_append_grows w hgd s x t ho e i z 1 8 ht hi hz hsize hby hzs (by omega) (some ⟨g, 0, none⟩) qs.length cap (qs.map ptr) hs (fun h => by cases h) (by simp) (fun b hb j u hj => by
        cases hb; exact hown.cells rfl j u hj) ad 1 c [ptr q] hx rfl hnews h1 (by omega) (by unfold maxLen; omega) (by omega) ?_
      intro v' w' ho' hg'
      refine hK v' w' (owns_mono ho' hbase) (grown_any hg') (.inr ?_)
      rcases ho'.2 with ⟨_, h0⟩ | ⟨g', cap', cur', hv', hgg, _⟩
      · simp at h0
      · exact ⟨g', by rw [hv']; rfl, hgg⟩
end

/-- An owned row of pointers is a slice of parts. -/
theorem kids_of_owns {S : Nat → Prop} {w : World} {base : Nat} {e : TypeId} {v : Value} {qs : List Nat} (h : w.ownsRow base e 1 v qs.length (qs.map ptr)) (hS : ∀ g, base ≤ g → S g) (hnil : qs = [] → v = .slice none 0 0) : kidsAt S w v qs := by
  rcases h.2 with ⟨hv, hn⟩ | ⟨g, cap, cur, hv, hg, _, hle, _⟩
  · exact .inl ⟨List.eq_nil_of_length_eq_zero hn, hv⟩
  · cases qs with
    | nil => exact .inl ⟨rfl, hnil rfl⟩
    | cons q qs =>
      refine .inr ⟨by simp, g, cap, ⟨hS g hg, hle⟩, hv, fun i q' hq => ?_⟩
      have := h.cells (g := g) (by rw [hv]; rfl) i (ptr q') (by rw [List.getElem?_map, hq]; rfl)
      have e : (⟨g, 0, none⟩ : Addr).add i = ⟨g, i, none⟩ := by unfold Addr.add; split <;> simp_all
      rw [e] at this
      exact this
end Go.Proofs.Ytnhdnfanjefglaa.Pl
