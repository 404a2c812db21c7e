/- The walk of Copy. No condition but those written. -/
import Derived.Test.YtkhjdhoaephdkaaDoorNamCopy3
namespace Go.Proofs.YtkhjdhoaephdkaaDoor
open Go.RowKit
attribute [local go_sem] neq_index eql_props eql_syms

section
variable {tb : Nat} {L : List Sym} {F : Nat → Prop} {w : World}
/-- What Copy leaves. -/
def CopyOf (W : World) (L : List Sym) (e : Ending) (w' : World) : Prop := ∃ ob D, e = .returned (.pointer (some ⟨ob, 0, none⟩)) ∧ TableIs w' ob D (newF W w') ∧ stripped D = stripped L ∧ Below W.heap.size W w'
set_option maxRecDepth 100000 in
set_option maxHeartbeats 4000000 in
theorem copy_any (h : TableIs w tb L F) (hL : 0 < L.length) (hL2 : L.length ≤ 16384) : Calls Tryd.prog 23 #[.pointer (some ⟨tb, 0, none⟩)] w (CopyOf w L) := by
  have HM := hide (made_any h)
  obtain ⟨vs, ib, a1, a2, a3, a4, a5, a6⟩ := h.holds
  obtain ⟨g, off, c, rfl, _, _, _⟩ := a2.fld sym_len hL
  obtain ⟨es, clock, hib, hies⟩ := a3.holds
  have c0 : w.cell? ⟨tb, 0, none⟩ = some (.slice (some ⟨g, off, none⟩) L.length c) := by rw [a1.cell]; rfl
  have c1 : w.cell? ⟨tb, 1, none⟩ = some (.map (some ib)) := by rw [a1.cell]; rfl
  have HS := hide (clone_syms ⟨g, off, none⟩ L.length c _ w.drew a2.drew (rows_cells fun x _ => sym_one x) (by omega))
  have HB1 := hide a1
  have HI := hide hib
  have HIL := hide a3.lt
  have HIM := hide fun (w2 : World) => show MapIs (w2.alloc (.map es clock)) w2.heap.size (indexFrom 0 L) from ⟨es, clock, heap_alloc_new _ _, hies⟩
  have HP := hide fun (x : Sym) (hx : x ∈ L) => h.props x hx
  have HL := hide hL
  have HL2 := hide hL2
  clear h a1 a2 a3 a4 a5 a6 hib hies hL hL2
  go_enter Tryd.func23, Tryd.ntmps23
  go_wp2_with fail
  refine (Calls.mono HM.out) ?_
  rintro e w' ⟨rfl, rfl⟩
  go_wp2_with fail
  go_region_held3 (fun w' => w'.cell? ⟨tb, 0, none⟩ = some (.slice (some ⟨g, off, none⟩) L.length c) ∧ w'.cell? ⟨tb, 1, none⟩ = some (.map (some ib))) (go_keep)
    (first
      | (go_at_call 44; refine (Calls.mono HS.out) ?_; rintro e w1 ⟨v', rfl, hsl, hge, hbl⟩; have d0 : w1.cell? ⟨tb, 0, none⟩ = some (.slice (some ⟨g, off, none⟩) L.length c) := (World.cell?_of_block (hbl.block tb HB1.out.lt)).trans c0; have d1 : w1.cell? ⟨tb, 1, none⟩ = some (.map (some ib)) := (World.cell?_of_block (hbl.block tb HB1.out.lt)).trans c1; have HI1 := hide ((hbl.block ib HIL.out).trans HI.out); have HSL := hide hsl; have HGE := hide hge; have HBL := hide hbl; obtain ⟨A', c', rfl, _⟩ := hsl.form; clear hsl hge hbl)
      | (go_at_call 45; refine (clone_index ib es clock _ HI1.out).mono ?_; rintro e w2 ⟨rfl, rfl⟩))
  go_wp2
  have hw3 : Below w1.heap.size w1 ((w1.alloc (.map es clock)).alloc (.cells #[.slice A' L.length c', .map (some w1.heap.size)] 76)) := ((Below.refl _ _).alloc (Nat.le_refl _) _).alloc (by simp) _
  have hC : Copying w (w1.heap.size + 1) L 0 ((w1.alloc (.map es clock)).alloc (.cells #[.slice A' L.length c', .map (some w1.heap.size)] 76)) := by
    have hsz := HBL.out.size
    refine ⟨⟨_, w1.heap.size, [], by simpa using Blk.new (w1.alloc (.map es clock)) 76 #[.slice A' L.length c', .map (some w1.heap.size)], (HSL.out.alloc _).alloc _, (HIM.out w1).alloc _, hsz, HGE.out, by simp [propBlocks], rfl, fun s hs => by simp at hs, by simp [propBlocks]⟩, by have : w.heap.size ≤ w1.heap.size := hsz; omega, (show Below w.heap.size w w1 from ⟨HBL.out.os, HBL.out.tape, HBL.out.output, HBL.out.size, HBL.out.block⟩).trans (hw3.mono hsz)⟩
  generalize (w1.alloc (.map es clock)).alloc (.cells #[.slice A' L.length c', .map (some w1.heap.size)] 76) = w3 at *
  generalize w1.heap.size + 1 = ob at *
  clear hw3 d0 d1 c0 c1
  go_loopw [25] (fun i wr => ∃ k : Nat, k ≤ L.length ∧ i = .int .i64 (k : Int) ∧ Copying w ob L k wr) (fun i _ => L.length - (intOf i).toNat)
  case atStart => exact ⟨0, Nat.zero_le _, rfl, hC⟩
  case round =>
    obtain ⟨k, hk, rfl, hk2⟩ := hrel
    have HL2' := HL2.out
    by_cases hlt : k < L.length
    · have hz : decide ((k : Int) < (L.length : Int)) = true := by simp; omega
      obtain ⟨x, hx⟩ : ∃ x, L[k]? = some x := ⟨_, List.getElem?_eq_getElem hlt⟩
      obtain ⟨g2, off2, c2, s0, sc, sne, so, sg, s5, sf, hstep⟩ := hk2.step hx
      have HLT := hide hlt
      rcases HP.out x (List.mem_of_getElem? hx) with ⟨hpm, hpr⟩ | ⟨b, hpm, _, hm⟩
      · rw [hpm] at s5
        have HN := hide (hstep wr.drew none (Below.refl _ _).drew (.inl ⟨rfl, hpr⟩))
        clear hk2 hx hstep hpm hpr hC
        go_wp2
        go_region_with (go_at_call 46; refine (clone_none _).mono ?_; rintro e w4 ⟨rfl, rfl⟩)
        all_goals
          go_wp2_with fail
          go_roundw
          case rel => exact ⟨k + 1, HLT.out, by go_num, HN.out⟩
          case measure => have := HLT.out; simp [intOf]; omega
      · rw [hpm] at s5
        have hmr : MapIs wr b (propPairs x.props) := hm.only (.of_below (F := fun _ => False) hk2.bel) fun f => f
        obtain ⟨es2, clock2, hb2, hes2⟩ := hmr.holds
        have hN := hstep (wr.drew.alloc (.map es2 clock2)) (some wr.heap.size) (((Below.refl _ _).drew).alloc (by simp) _) (.inr ⟨wr.heap.size, rfl, Nat.le_refl _, ⟨es2, clock2, heap_alloc_new wr.drew _, hes2⟩⟩)
        rw [World.setCell_alloc_past _ _ _ _ (by simpa using sg)] at hN
        have HN := hide hN
        have HB2 := hide hb2
        have hbl : Below wr.heap.size wr (wr.drew.alloc (.map es2 clock2)) := ((Below.refl _ _).drew).alloc (by simp) _
        have u0 : (wr.drew.alloc (.map es2 clock2)).cell? ⟨ob, 0, none⟩ = some (.slice (some ⟨g2, off2, none⟩) L.length c2) := (World.cell?_of_block (hbl.block ob so)).trans s0
        have u5 : (wr.drew.alloc (.map es2 clock2)).cell? ⟨g2, off2 + k * 6 + 5, none⟩ = some (.map (some b)) := (World.cell?_of_block (hbl.block g2 sg)).trans s5
        have uf : (wr.drew.alloc (.map es2 clock2)).frozen? ⟨g2, off2 + k * 6 + 5, none⟩ = false := (hbl.frozen (p := ⟨g2, off2 + k * 6 + 5, none⟩) sg).trans sf
        clear hk2 hx hstep hpm hC hm hmr hes2 hN hb2 hbl
        go_wp2
        go_region_with (go_at_call 46; refine (clone_words b es2 clock2 wr.drew HB2.out).mono ?_; rintro e w4 ⟨rfl, rfl⟩)
        all_goals
          go_wp2_with fail
          go_roundw
          case rel => exact ⟨k + 1, HLT.out, by go_num, HN.out⟩
          case measure => have := HLT.out; simp [intOf]; omega
    · have hz : decide ((k : Int) < (L.length : Int)) = false := by simp; omega
      obtain rfl : k = L.length := by omega
      have HC := hide hk2
      clear hk2 hC
      go_wp2
      go_ret
      obtain ⟨D, h1, h2⟩ := HC.out.done
      exact ⟨ob, D, rfl, h1, h2, HC.out.bel⟩
end
end Go.Proofs.YtkhjdhoaephdkaaDoor
