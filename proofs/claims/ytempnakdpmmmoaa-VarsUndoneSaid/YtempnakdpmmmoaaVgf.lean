/- Bind where the variable has a local cell in the current scope. No condition but those written. -/
import Derived.Test.YtempnakdpmmmoaaVarN
import Derived.Deep.RegionLaw
import Derived.Deep.RegionHeld3
import Derived.Deep.DeepCutAuto
namespace Go.Proofs.Ytempnakdpmmmoaa
open Go.RowKit
attribute [local go_sem] neq_cells

section
variable {W w w' : World} {b : Vb} {s : Vst} {R : Heap}
theorem VarsAt.setBox {g : Nat} {x u : Value} (h : VarsAt W w b s ((g, .cells 3 #[x]) :: R)) : VarsAt W (w.setCell ⟨g, 0, none⟩ u) b s ((g, .cells 3 #[u]) :: R) :=
  ⟨((h.own.perm List.perm_middle).setCell 0 u).perm List.perm_middle.symm, h.sl.far (p := ⟨g, 0, none⟩) (h.sl.ne_blk (h.own.blk (g := g) (t := 3) (cs := #[x]) (by simp)) (by decide)) _⟩
/-- What Bind leaves where the variable has a local cell. -/
def BoundL (W : World) (b : Vb) (s : Vst) (R : Heap) (n : Int) (e : Ent) (k m : Int) (w' : World) : Prop :=
  ∃ g1 g2 v, VarsAt W w' (b.withNv v) ((s.addNote ⟨e.c, n, s.scope, g1, g2⟩).upd e.g ⟨k, m, true⟩) R
set_option maxRecDepth 100000 in
set_option maxHeartbeats 2000000 in
theorem bind_loc (h : VarsAt W w b s R) (n : Int) (hc : ∀ {w1 : World} {R1 : Heap}, VarsAt W w1 b s R1 → Calls Try.prog 34 #[.pointer (some ⟨b.vb, 0, none⟩), .int .i64 n] w1 fun e w2 => e = .returned (.int .i64 0) ∧ w1 = w2) (hd : s.notes.length < 2000) {en : Ent} (hl : s.lcl s.scope n = some en) (k m : Int) : Calls Try.prog 10 #[.pointer (some ⟨b.vb, 0, none⟩), .int .i64 n, .agg #[.int .i64 k, .int .i64 m]] w
    fun r w' => r = .returned (.int .i64 0) ∧ BoundL W b s R n en k m w' := by
  obtain ⟨i0, hi, hz0, hz1, hz2⟩ := info_parts info_note
  have h1 := (h.box 3 #[.int .i64 n]).box 29 #[.int .i64 k, .int .i64 m]
  rw [World.size_alloc] at h1
  have HC := hide (hc h1)
  have h2 := h1.box 3 #[.int .i64 0]
  rw [World.size_alloc, World.size_alloc] at h2
  obtain ⟨A, c, hv, _⟩ := h.sl.form
  have q3 : ((w.alloc (.cells #[.int .i64 n] 3)).alloc (.cells #[.int .i64 k, .int .i64 m] 29)).cell? ⟨b.vb, 3, none⟩ = some (.slice A s.notes.length c) := by rw [h1.vb.cell, ← hv]; rfl
  clear hv
  go_enter Try.func10, Try.ntmps10
  go_wp2_with fail
  refine (Calls.mono HC.out) ?_
  rintro e w2 ⟨rfl, rfl⟩
  have hz : decide ((2000 : Int) ≤ (s.notes.length : Int)) = false := by simp; omega
  have HD := hide hd
  clear hd
  go_wp2
  generalize ((w.alloc (.cells #[.int .i64 n] 3)).alloc (.cells #[.int .i64 k, .int .i64 m] 29)).alloc (.cells #[.int .i64 0] 3) = w3 at *
  have c1 : w3.cell? ⟨b.vb, 1, none⟩ = some (.map (some b.lb)) := by rw [h2.vb.cell]; rfl
  have c4 : w3.cell? ⟨b.vb, 4, none⟩ = some (.int .i64 s.scope) := by rw [h2.vb.cell]; rfl
  have k0 : w3.cell? ⟨w.heap.size, 0, none⟩ = some (.int .i64 n) := by rw [(h2.own.blk (g := w.heap.size) (t := 3) (cs := #[.int .i64 n]) (by simp)).cell]; rfl
  obtain ⟨mv, l1, l2⟩ := h2.drew.lookups s.scope n
  rw [hl] at l2
  simp only [Option.map_some] at l2
  have b8 := h2.own.blk (g := w.heap.size + 1 + 1) (t := 3) (cs := #[.int .i64 0]) (by simp)
  have f8 : w3.drew.frozen? ⟨w.heap.size + 1 + 1, 0, none⟩ = false := b8.frozen 0
  have g8 : w3.drew.cell? ⟨w.heap.size + 1 + 1, 0, none⟩ = some (.int .i64 0) := b8.cell 0
  have HP := hide (place_local (h2.drew.setBox (u := .int .i64 s.scope)) n en hl)
  have H2 := hide h2
  have HI := hide hi
  have HZ := hide hz0
  have HZ1 := hide hz1
  have HZ2 := hide hz2
  have HMEM := hide (mem_lcl hl)
  clear b8
  clear h h1 h2 hc hl HC q3 hz hi hz0 hz1 hz2
  go_region
  go_wp2_with fail
  refine (Calls.mono HP.out) ?_
  rintro r w4 ⟨rfl, hV⟩
  clear c1 c4 k0 l1 l2 HP H2 f8 g8
  obtain ⟨g, hg⟩ : ∃ g, g = en.g := ⟨_, rfl⟩
  obtain ⟨d, hd0⟩ : ∃ d, d = en.c := ⟨_, rfl⟩
  obtain ⟨sc, hsc⟩ : ∃ sc, sc = s.scope := ⟨_, rfl⟩
  rw [← hsc] at hV
  rw [← hg]
  have hf : (g, celA d) ∈ s.cellsOf := by rw [hg, hd0]; exact HMEM.out
  have HF := hide hf
  have HG := hide (And.intro hg (And.intro hd0 hsc))
  clear hg hd0 hsc HMEM
  obtain ⟨q0, q1, q2, f0, f1, f2⟩ := cel_cells (hV.cel hf)
  have e0 : w4.cell? ⟨w.heap.size, 0, none⟩ = some (.int .i64 n) := (hV.own.blk (g := w.heap.size) (t := 3) (cs := #[.int .i64 n]) (by simp)).cell 0
  have e1 : w4.cell? ⟨w.heap.size + 1, 0, none⟩ = some (.int .i64 k) := (hV.own.blk (g := w.heap.size + 1) (t := 29) (cs := #[.int .i64 k, .int .i64 m]) (by simp)).cell 0
  have e2 : w4.cell? ⟨w.heap.size + 1, 1, none⟩ = some (.int .i64 m) := (hV.own.blk (g := w.heap.size + 1) (t := 29) (cs := #[.int .i64 k, .int .i64 m]) (by simp)).cell 1
  have e3 : w4.cell? ⟨w.heap.size + 1 + 1, 0, none⟩ = some (.int .i64 sc) := (hV.own.blk (g := w.heap.size + 1 + 1) (t := 3) (cs := #[.int .i64 sc]) (by simp)).cell 0
  obtain ⟨A', c', hv, hv2, hv3⟩ := hV.sl.form
  have e4 : w4.cell? ⟨b.vb, 3, none⟩ = some (.slice A' s.notes.length c') := by rw [hV.vb.cell, ← hv]; rfl
  have hd2 : s.notes.length < 2000 := HD.out
  have hsl : Sl (w4.drew.alloc (.cells #[.int .i64 d.k, .int .i64 d.n, .bool d.b, .int .i64 n, .int .i64 sc, .func (.func 36) #[] #[.pointer (some ⟨w.heap.size + 1 + 1, 0, none⟩), .pointer (some ⟨w.heap.size, 0, none⟩)]] 64)) 64 6 (.slice A' s.notes.length c') s.notes.length (rows Nte.cells s.notes) := by
    rw [← hv]
    exact (hV.sl.drew).alloc _
  have HV := hide ((hV.perm (List.Perm.cons _ (List.Perm.swap _ _ _))).drew.skip (.cells #[.int .i64 d.k, .int .i64 d.n, .bool d.b, .int .i64 n, .int .i64 sc, .func (.func 36) #[] #[.pointer (some ⟨w.heap.size + 1 + 1, 0, none⟩), .pointer (some ⟨w.heap.size, 0, none⟩)]] 64))
  have HVV := hide hv
  have e5 : (w4.alloc (.cells #[.int .i64 d.k, .int .i64 d.n, .bool d.b, .int .i64 n, .int .i64 sc, .func (.func 36) #[] #[.pointer (some ⟨w.heap.size + 1 + 1, 0, none⟩), .pointer (some ⟨w.heap.size, 0, none⟩)]] 64)).cell? ⟨b.vb, 3, none⟩ = some (.slice A' s.notes.length c') := by
    rw [(hV.vb.alloc _).cell, ← hv]
    rfl
  have n1 : b.vb ≠ g := hV.own.kind_ne (a := .cells 57 _) (b := celA d) (by simp [Vst.heap, Vb.head]; exact .inl rfl) (mem_cells hf) (by simp [Ast.kind, celA])
  have n2 : b.vb ≠ w.heap.size := hV.own.kind_ne (a := .cells 57 _) (b := .cells 3 #[.int .i64 n]) (by simp [Vst.heap, Vb.head]; exact .inl rfl) (by simp) (by simp [Ast.kind])
  have n3 : b.vb ≠ w.heap.size + 1 + 1 := hV.own.kind_ne (a := .cells 57 _) (b := .cells 3 #[.int .i64 sc]) (by simp [Vst.heap, Vb.head]; exact .inl rfl) (by simp) (by simp [Ast.kind])
  have HSL := hide hsl
  have HX := hide fun (w5 : World) (ho : Only (fun i => b.nv.ownBlock = some i) (w4.drew.alloc (.cells #[.int .i64 d.k, .int .i64 d.n, .bool d.b, .int .i64 n, .int .i64 sc, .func (.func 36) #[] #[.pointer (some ⟨w.heap.size + 1 + 1, 0, none⟩), .pointer (some ⟨w.heap.size, 0, none⟩)]] 64)) w5) => HV.out.only_cells HF.out ho
  clear hf hsl hv hV hv2 hv3 HD f0 f1 f2
  go_upto_region 11 with fail
  go_cut [] (fun wx => ∃ v', VarsAt W wx (b.withNv v') (s.addNote ⟨d, n, sc, w.heap.size + 1 + 1, w.heap.size⟩) ((w.heap.size + 1, .cells 29 #[.int .i64 k, .int .i64 m]) :: R))
  case first =>
    go_region_law
      ((refine step_append_sl rfl (.tmp 47) (.tmp 55) 55 rfl 64 i0 _ 6 48 Try.underlying55 HI.out HZ.out HZ1.out HZ2.out rfl _ s.notes.length (rows Nte.cells s.notes) rfl HSL.out _ rfl 1 _ (rd_elem w4.drew 64 6 (Nte.cells ⟨d, n, sc, w.heap.size + 1 + 1, w.heap.size⟩) rfl) (nte_one _) (by unfold maxLen; omega) (by omega) ?_; intro v' w5 hs5 ho5 hv5; rw [← HVV.out] at ho5 hv5; have hadd := HV.out.addNote (x := ⟨d, n, sc, w.heap.size + 1 + 1, w.heap.size⟩) hs5 ho5 hv5; obtain ⟨A2, c2, rfl, _⟩ := hs5.form; have c5 := hadd.1.cell 3; have f5 := hadd.1.frozen 3; obtain ⟨x0, x1, x2, x3, x4⟩ := HX.out w5 ho5; have HN := hide hadd.2; clear hs5 ho5 hv5 hadd))
    all_goals (go_wp2_with fail; go_meet; exact ⟨_, HN.out⟩)
  case rest =>
    obtain ⟨v', hN⟩ := hcut
    obtain ⟨p0, p1, p2, g0, g1, g2⟩ := cel_cells (hN.cel (show (g, celA d) ∈ (s.addNote ⟨d, n, sc, w.heap.size + 1 + 1, w.heap.size⟩).cellsOf from HF.out))
    have hw := hN.own.blk (g := w.heap.size + 1) (t := 29) (cs := #[.int .i64 k, .int .i64 m]) (by simp)
    have r0 := hw.cell 0
    have r1 := hw.cell 1
    have HS := hide (hN.drop.store (show (g, celA d) ∈ (s.addNote ⟨d, n, sc, w.heap.size + 1 + 1, w.heap.size⟩).cellsOf from HF.out) ⟨k, m, true⟩)
    clear hw hN
    go_wp2
    go_ret
    refine ⟨rfl, w.heap.size + 1 + 1, w.heap.size, v', ?_⟩
    obtain ⟨e1, e2, e3⟩ := HG.out
    rw [← e1, ← e2, ← e3]
    exact HS.out
end
end Go.Proofs.Ytempnakdpmmmoaa
