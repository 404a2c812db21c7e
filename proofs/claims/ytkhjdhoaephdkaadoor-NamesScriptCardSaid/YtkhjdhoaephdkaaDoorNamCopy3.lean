/- Copy: a table of the same symbols in blocks of its own. No condition but those written. -/
import Derived.Test.YtkhjdhoaephdkaaDoorNamCopy2
import Derived.Deep.RegionWith
import Derived.Deep.RegionHeld3
namespace Go.Proofs.YtkhjdhoaephdkaaDoor
open Go.RowKit

/-- The copy when k symbols have got properties of their own. -/
structure Copying (W : World) (ob : Nat) (L : List Sym) (k : Nat) (w : World) : Prop where
  holds : ∃ vs ib D, Blk w ob 76 #[vs, .map (some ib)] ∧ Sl w 84 6 vs L.length (rows Sym.cells (D ++ L.drop k)) ∧ MapIs w ib (indexFrom 0 L) ∧ W.heap.size ≤ ib ∧
    (∀ g, vs.ownBlock = some g → W.heap.size ≤ g) ∧ ib ∉ propBlocks D ∧ stripped D = stripped (L.take k) ∧
    (∀ s ∈ D, (s.pm = none ∧ s.props = []) ∨ ∃ b, s.pm = some b ∧ W.heap.size ≤ b ∧ MapIs w b (propPairs s.props)) ∧ (propBlocks D).Nodup
  ge : W.heap.size ≤ ob
  bel : Below W.heap.size W w

section
variable {W w w' : World} {ob : Nat} {L : List Sym} {k : Nat}
theorem Copying.below (h : Copying W ob L k w) (hb : Below w.heap.size w w') : Copying W ob L k w' := by
  obtain ⟨vs, ib, D, h1, h2, h3, h4, h5, h6, h7, h8, h9⟩ := h.holds
  refine ⟨⟨vs, ib, D, h1.below hb h1.lt, h2.only (.of_below (F := fun _ => False) hb) fun _ _ f => f, h3.only (.of_below (F := fun _ => False) hb) fun f => f, h4, h5, h6, h7, fun s hs => ?_, h9⟩, h.ge, h.bel.trans (hb.mono h.bel.size)⟩
  rcases h8 s hs with hp | ⟨b, hb1, hb2, hb3⟩
  · exact .inl hp
  · exact .inr ⟨b, hb1, hb2, hb3.only (.of_below (F := fun _ => False) hb) fun f => f⟩
theorem Copying.drew (h : Copying W ob L k w) : Copying W ob L k w.drew := h.below (Below.refl _ _).drew
/-- One more: the cell of the next symbol's properties, and what a store there leaves. -/
theorem Copying.step (h : Copying W ob L k w) {x : Sym} (hx : L[k]? = some x) : ∃ g off c, w.cell? ⟨ob, 0, none⟩ = some (.slice (some ⟨g, off, none⟩) L.length c) ∧ L.length ≤ c ∧ g ≠ ob ∧ ob < w.heap.size ∧ g < w.heap.size ∧ w.cell? ⟨g, off + k * 6 + 5, none⟩ = some (.map x.pm) ∧ w.frozen? ⟨g, off + k * 6 + 5, none⟩ = false ∧
    ∀ w1 p, Below w.heap.size w w1 → ((p = none ∧ x.props = []) ∨ ∃ b, p = some b ∧ w.heap.size ≤ b ∧ MapIs w1 b (propPairs x.props)) → Copying W ob L (k + 1) (w1.setCell ⟨g, off + k * 6 + 5, none⟩ (.map p)) := by
  obtain ⟨vs, ib, D, h1, h2, h3, h4, h5, h6, h7, h8, h9⟩ := h.holds
  have hlt : k < L.length := (List.getElem?_eq_some_iff.1 hx).1
  have hD : D.length = k := by rw [stripped_len h7]; simp; omega
  have hdrop : L.drop k = x :: L.drop (k + 1) := by
    rw [List.drop_eq_getElem_cons hlt]
    congr
    exact (List.getElem?_eq_some_iff.1 hx).2
  have hlen : (D ++ L.drop k).length = L.length := by simp [hD]; omega
  have hat : (D ++ L.drop k)[k]? = some x := by rw [hdrop, List.getElem?_append_right (by omega), hD]; simp
  have h2' : Sl w 84 6 vs (D ++ L.drop k).length (rows Sym.cells (D ++ L.drop k)) := by rw [hlen]; exact h2
  obtain ⟨g, off, c, rfl, hc, _, hg, hfz, hcell⟩ := h2'.fld sym_len (by omega)
  rw [hlen] at hc
  have hne := h2.ne_blk h1 (by decide)
  have hgo : g ≠ ob := fun e => hne (by rw [e]; rfl)
  rw [hlen] at h2' h2 h1
  refine ⟨g, off, c, by rw [h1.cell]; rfl, hc, hgo, h1.lt, hg, hcell k x 5 _ hat rfl, hfz _, fun w1 p hb hp => ?_⟩
  have hS := (h2.only (.of_below (F := fun _ => False) hb) fun _ _ f => f).set (k * 6 + 5) (by rw [rows_len sym_len, hlen]; omega) (.map p)
  rw [rows_set sym_len (x.withPm p) 5 (.map p) (D ++ L.drop k) k x hat (by decide) rfl] at hS
  have e1 : (D ++ L.drop k).set k (x.withPm p) = (D ++ [x.withPm p]) ++ L.drop (k + 1) := by
    rw [hdrop, List.set_append_right _ _ (by omega), hD]
    simp
  rw [e1] at hS
  have hB := h.bel.size
  have hnew : ∀ b, p = some b → (b ∉ propBlocks D ∧ b ≠ ib) := fun b hb' => by
    have hbn : w.heap.size ≤ b := by
      rcases hp with ⟨e, _⟩ | ⟨b', e, h1, _⟩
      · rw [e] at hb'; cases hb'
      · rw [e] at hb'; cases hb'; exact h1
    refine ⟨fun hm => ?_, fun e => by have := h3.lt; omega⟩
    obtain ⟨s, hs, hsb⟩ := List.mem_filterMap.1 hm
    rcases h8 s hs with ⟨e, _⟩ | ⟨b', hb1, _, hb3⟩
    · rw [e] at hsb; cases hsb
    · rw [hb1] at hsb; cases hsb; have := hb3.lt; omega
  refine ⟨⟨_, ib, D ++ [x.withPm p], (h1.below hb h1.lt).far (p := ⟨g, off + k * 6 + 5, none⟩) hgo.symm _, by rw [Nat.add_assoc]; exact hS, (h3.only (.of_below (F := fun _ => False) hb) fun f => f).setCell _ _, h4, h5, ?_, ?_, ?_, ?_⟩, h.ge, h.bel.trans ((hb.mono hB).setCell (p := ⟨g, off + k * 6 + 5, none⟩) (h5 g rfl) _)⟩
  · rw [prop_blocks_append, List.mem_append]
    rintro (hm | hm)
    · exact h6 hm
    · simp only [propBlocks, List.filterMap_cons, List.filterMap_nil, Sym.withPm] at hm
      cases hp' : p with
      | none => rw [hp'] at hm; simp at hm
      | some b => rw [hp'] at hm; simp at hm; exact (hnew b hp').2 hm.symm
  · rw [stripped_append, h7, List.take_succ_eq_append_getElem hlt, stripped_append]
    congr 1
    have : L[k] = x := (List.getElem?_eq_some_iff.1 hx).2
    rw [this]
    rfl
  · intro s hs
    rcases List.mem_append.1 hs with hs | hs
    · rcases h8 s hs with hq | ⟨b, hb1, hb2, hb3⟩
      · exact .inl hq
      · exact .inr ⟨b, hb1, hb2, (hb3.only (.of_below (F := fun _ => False) hb) fun f => f).setCell _ _⟩
    · simp at hs
      subst hs
      rcases hp with ⟨e, hpr⟩ | ⟨b, e, hb1, hb2⟩
      · exact .inl ⟨e, hpr⟩
      · exact .inr ⟨b, e, by omega, hb2.setCell _ _⟩
  · rw [prop_blocks_append]
    refine List.nodup_append.2 ⟨h9, ?_, ?_⟩
    · simp only [propBlocks, List.filterMap_cons, List.filterMap_nil, Sym.withPm]
      cases p <;> simp
    · intro a ha b hb' e
      subst e
      simp only [propBlocks, List.filterMap_cons, List.filterMap_nil, Sym.withPm] at hb'
      cases hp' : p with
      | none => rw [hp'] at hb'; simp at hb'
      | some b => rw [hp'] at hb'; simp at hb'; subst hb'; exact (hnew _ hp').1 ha
/-- All. -/
theorem Copying.done (h : Copying W ob L L.length w) : ∃ D, TableIs w ob D (newF W w) ∧ stripped D = stripped L := by
  obtain ⟨vs, ib, D, h1, h2, h3, h4, h5, h6, h7, h8, h9⟩ := h.holds
  rw [List.take_length] at h7
  rw [List.drop_length, List.append_nil] at h2
  have hl : D.length = L.length := stripped_len h7
  refine ⟨D, ⟨⟨vs, ib, h1, by rw [hl]; exact h2, by rw [index_twin h7]; exact h3, ⟨h4, h3.lt⟩, fun g hg => ⟨h5 g hg, h2.lt g hg⟩, h6⟩, fun s hs => ?_, h9, ⟨h.ge, h1.lt⟩, fun k hk => hk.2⟩, h7⟩
  rcases h8 s hs with hq | ⟨b, hb1, hb2, hb3⟩
  · exact .inl hq
  · exact .inr ⟨b, hb1, ⟨hb2, hb3.lt⟩, hb3⟩
end
end Go.Proofs.YtkhjdhoaephdkaaDoor
