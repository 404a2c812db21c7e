/- Words of a table: the closures that it uses. No condition but those written. -/
import Derived.Test.YtdojcgefiekleaaDoorSch
import Derived.Test.YtdojcgefiekleaaDoorSyu
namespace Go.Proofs.YtdojcgefiekleaaDoor
open Go.RowKit

/-- Within Words: the boxes of the table, of the index, of the characters, of the offset. -/
structure WSt (w0 w : World) (g : Nat) (p : TL) (v : Value) (L : List Nat) (i nx : Int) : Prop where
  bel : Below w0.heap.size w0 w
  bt : Blk w w0.heap.size 28 #[.pointer (some ⟨p.t, 0, none⟩)]
  ba : Blk w (w0.heap.size + 1) 3 #[.int .i64 i]
  bl : Blk w g 24 #[v]
  bn : Blk w (g + 1) 3 #[.int .i64 nx]
  row : Sl w 3 1 v L.length (ints L)
  lt : w0.heap.size + 2 ≤ g
  own : ∀ k, v.ownBlock = some k → w0.heap.size + 2 ≤ k ∧ k < g
/-- The number in a box. -/
def boxN (w : World) (g : Nat) : Nat := match w.cell? ⟨g, 0, none⟩ with | some v => (intOf v).toNat | none => 0
section
variable {w0 w w' : World} {p : TL} {T : Tb} {v : Value} {L : List Nat} {g : Nat} {i nx : Int}
theorem WSt.below (h : WSt w0 w g p v L i nx) (hb : Below w.heap.size w w') : WSt w0 w' g p v L i nx :=
  ⟨h.bel.trans (hb.mono h.bel.size), h.bt.below hb h.bt.lt, h.ba.below hb h.ba.lt, h.bl.below hb h.bl.lt, h.bn.below hb h.bn.lt, h.row.only (Only.of_below (F := fun _ => False) hb) fun _ _ f => f, h.lt, h.own⟩
theorem WSt.ct (h : WSt w0 w g p v L i nx) : w.cell? ⟨w0.heap.size, 0, none⟩ = some (.pointer (some ⟨p.t, 0, none⟩)) := (h.bt.cell 0).trans rfl
theorem WSt.ca (h : WSt w0 w g p v L i nx) : w.cell? ⟨w0.heap.size + 1, 0, none⟩ = some (.int .i64 i) := (h.ba.cell 0).trans rfl
theorem WSt.cl (h : WSt w0 w g p v L i nx) : w.cell? ⟨g, 0, none⟩ = some v := (h.bl.cell 0).trans rfl
theorem WSt.cn (h : WSt w0 w g p v L i nx) : w.cell? ⟨g + 1, 0, none⟩ = some (.int .i64 nx) := (h.bn.cell 0).trans rfl
theorem WSt.fa (h : WSt w0 w g p v L i nx) : w.frozen? ⟨w0.heap.size + 1, 0, none⟩ = false := h.ba.frozen 0
theorem WSt.boxN (h : WSt w0 w g p v L i nx) : boxN w (w0.heap.size + 1) = i.toNat := by
  unfold Proofs.YtdojcgefiekleaaDoor.boxN
  rw [h.ca]
  rfl
theorem WSt.put (h : WSt w0 w g p v L i nx) (k : Int) : WSt w0 (w.setCell ⟨w0.heap.size + 1, 0, none⟩ (.int .i64 k)) g p v L k nx := by
  have hlt := h.lt
  refine ⟨h.bel.setCell (by simp) _, h.bt.far (by simp) _, h.ba.set_ 0 _, h.bl.far (by simp only []; omega) _, h.bn.far (by simp only []; omega) _, h.row.far (fun e => ?_) _, hlt, h.own⟩
  have := (h.own _ e).1
  simp only [] at this
  omega
theorem WSt.scan (h : WSt w0 w g p v L i nx) (ht : TabAt w0 p T) (hl : L.length ≤ 1000000000000) : Scan w p T v L := ⟨ht.below h.bel, h.row.rd, hl⟩
theorem in_yes (h : WSt w0 w g p v L i nx) (hl : L.length ≤ 1000000000000) (h0 : 0 ≤ i + nx) (h1 : i + nx < L.length) : Calls Tryd.prog 44 #[.pointer (some ⟨w0.heap.size + 1, 0, none⟩), .pointer (some ⟨g + 1, 0, none⟩), .pointer (some ⟨g, 0, none⟩)] w fun e w' => e = .returned (.bool true) ∧ Below w.heap.size w w' := by
  have c0 := h.ca
  have c1 := h.cn
  obtain ⟨A, c, rfl, _⟩ := h.row.form
  have c2 := h.cl
  have q0 : decide (0 ≤ i + nx) = true := by simpa using h0
  have q1 : decide (i + nx < (L.length : Int)) = true := by simpa using h1
  have hl2 : (L.length : Int) ≤ 1000000000000 := by omega
  clear h
  go_enter Tryd.func44, Tryd.ntmps44
  go_wp2
  go_ret
  exact ⟨rfl, Below.refl _ _⟩
theorem in_no (h : WSt w0 w g p v L i nx) (hl : L.length ≤ 1000000000000) (hi : -1000000000000 ≤ i + nx) (hi2 : i + nx ≤ 1000000000000) (h0 : ¬ (0 ≤ i + nx ∧ i + nx < L.length)) : Calls Tryd.prog 44 #[.pointer (some ⟨w0.heap.size + 1, 0, none⟩), .pointer (some ⟨g + 1, 0, none⟩), .pointer (some ⟨g, 0, none⟩)] w fun e w' => e = .returned (.bool false) ∧ Below w.heap.size w w' := by
  have c0 := h.ca
  have c1 := h.cn
  obtain ⟨A, c, rfl, _⟩ := h.row.form
  have c2 := h.cl
  have hl2 : (L.length : Int) ≤ 1000000000000 := by omega
  clear h
  by_cases h1 : 0 ≤ i + nx
  · have q0 : decide (0 ≤ i + nx) = true := by simpa using h1
    have q1 : decide (i + nx < (L.length : Int)) = false := by simp; omega
    clear h0
    go_enter Tryd.func44, Tryd.ntmps44
    go_wp2
    go_ret
    exact ⟨rfl, Below.refl _ _⟩
  · have q0 : decide (0 ≤ i + nx) = false := by simpa using h1
    clear h0
    go_enter Tryd.func44, Tryd.ntmps44
    go_wp2
    go_ret
    exact ⟨rfl, Below.refl _ _⟩
set_option maxRecDepth 100000 in
set_option maxHeartbeats 4000000 in
theorem word_is (h : WSt w0 w g p v L i nx) (ht : TabAt w0 p T) (hl : L.length ≤ 1000000000000) {j : Nat} (hj : i + nx = (j : Int)) (h1 : j < L.length) : Calls Tryd.prog 45 #[.pointer (some ⟨w0.heap.size, 0, none⟩), .pointer (some ⟨g, 0, none⟩), .pointer (some ⟨w0.heap.size + 1, 0, none⟩), .pointer (some ⟨g + 1, 0, none⟩)] w fun e w' => e = .returned (.bool (T.at_ L j == 1)) ∧ Below w.heap.size w w' := by
  have HS := hide (h.scan ht hl)
  obtain ⟨b, off, c, rfl, hc⟩ := HS.out.at_ h1
  have HC := hide (fun W hW => class_any (HS.out.tab.below (w' := W) hW) ((L.getD j 0 : Nat) : Int))
  have hcell := hc w (Below.refl _ _) j h1
  have c0 := h.ca
  have c1 := h.cn
  have c2 := h.cl
  have c3 := h.ct
  have y1 : decide ((j : Int) < (L.length : Int)) = true := by simp; omega
  have y2 : decide (j < L.length) = true := by simpa using h1
  have hl2 : (L.length : Int) ≤ 1000000000000 := by omega
  have hw : IntKind.i64.wrap (i + nx) = (j : Int) := by rw [hj]; exact IntWalk.i64_in _ (by omega)
  unfold Tb.at_
  obtain ⟨ch, hch⟩ : ∃ ch : Int, ch = ((L.getD j 0 : Nat) : Int) := ⟨_, rfl⟩
  rw [← hch] at hcell HC ⊢
  have HKEEP := hide (fun W (hW : Below w.heap.size w W) => And.intro (h.below hW).ct (And.intro (h.below hW).cl (And.intro (h.below hW).ca (And.intro (h.below hW).cn ((hc W hW j h1).trans (by rw [hch] : _ = some (Value.int .i64 ch)))))))
  have HR0 := hide (Below.refl w.heap.size w)
  clear hch h hc HS hj
  go_enter Tryd.func45, Tryd.ntmps45
  go_wp2
  go_region_held3 (fun w' => w'.cell? ⟨w0.heap.size, 0, none⟩ = some (.pointer (some ⟨p.t, 0, none⟩)) ∧ w'.cell? ⟨g, 0, none⟩ = some (.slice (some ⟨b, off, none⟩) L.length c) ∧ w'.cell? ⟨w0.heap.size + 1, 0, none⟩ = some (.int .i64 i) ∧ w'.cell? ⟨g + 1, 0, none⟩ = some (.int .i64 nx) ∧ w'.cell? ⟨b, off + j, none⟩ = some (.int .i64 ch))
    (first | exact HKEEP.out _ HR0.out.drew | exact HKEEP.out _ (HR0.out.drew.trans hb5))
    (first | (go_at_call 16; (with_reducible refine Calls.mono (HC.out _ HR0.out.drew) ?_); rintro r w5 ⟨rfl, hb5⟩))
  go_wp2
  go_ret
  exact ⟨rfl, HR0.out.drew.trans hb5⟩
end
end Go.Proofs.YtdojcgefiekleaaDoor
