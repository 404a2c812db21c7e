/- Bind. No condition but those written. -/
import Derived.Test.YtempnakdpmmmoaaVarN
import Derived.Deep.RegionLaw
import Derived.Deep.RegionHeld3
import Derived.Deep.DeepCutAuto
namespace Go.Proofs.Ytempnakdpmmmoaa
open Go.RowKit
attribute [local go_sem] neq_cells

section
variable {W w w' : World} {b : Vb} {s : Vst} {R : Heap}
/-- What Bind leaves where the variable has no local cell. -/
def BoundG (W : World) (b : Vb) (s : Vst) (R : Heap) (n k m : Int) (w' : World) : Prop :=
  ∃ g g1 g2 v, fnd (s.glob n g).defs n = some ⟨n, g, s.dflt n⟩ ∧ VarsAt W w' (b.withNv v) (((s.glob n g).addNote ⟨s.dflt n, n, 0, g1, g2⟩).upd g ⟨k, m, true⟩) R
set_option maxRecDepth 100000 in
set_option maxHeartbeats 2000000 in
theorem bind_glob (h : VarsAt W w b s R) (n : Int) (hc : ∀ {w1 : World} {R1 : Heap}, VarsAt W w1 b s R1 → Calls Try.prog 34 #[.pointer (some ⟨b.vb, 0, none⟩), .int .i64 n] w1 fun e w2 => e = .returned (.int .i64 0) ∧ w1 = w2) (hd : s.notes.length < 2000) (hl : s.lcl s.scope n = none) (k m : Int) : Calls Try.prog 10 #[.pointer (some ⟨b.vb, 0, none⟩), .int .i64 n, .agg #[.int .i64 k, .int .i64 m]] w
    fun r w' => r = .returned (.int .i64 0) ∧ BoundG W b s R n k m w' := by
  obtain ⟨i0, hi, hz0, hz1, hz2⟩ := info_parts info_note
  have h1 := (h.box 3 #[.int .i64 n]).box 29 #[.int .i64 k, .int .i64 m]
  rw [World.size_alloc] at h1
  have HC := hide (hc h1)
  have h2 := h1.box 3 #[.int .i64 0]
  rw [World.size_alloc, World.size_alloc] at h2
  obtain ⟨A, c, hv, _⟩ := h.sl.form
  have q3 : ((w.alloc (.cells #[.int .i64 n] 3)).alloc (.cells #[.int .i64 k, .int .i64 m] 29)).cell? ⟨b.vb, 3, none⟩ = some (.slice A s.notes.length c) := by rw [h1.vb.cell, ← hv]; rfl
  clear hv
  go_enter Try.func10, Try.ntmps10
  go_wp2_with fail
  refine (Calls.mono HC.out) ?_
  rintro e w2 ⟨rfl, rfl⟩
  have hz : decide ((2000 : Int) ≤ (s.notes.length : Int)) = false := by simp; omega
  have HD := hide hd
  clear hd
  go_wp2
  generalize ((w.alloc (.cells #[.int .i64 n] 3)).alloc (.cells #[.int .i64 k, .int .i64 m] 29)).alloc (.cells #[.int .i64 0] 3) = w3 at *
  have c1 : w3.cell? ⟨b.vb, 1, none⟩ = some (.map (some b.lb)) := by rw [h2.vb.cell]; rfl
  have c4 : w3.cell? ⟨b.vb, 4, none⟩ = some (.int .i64 s.scope) := by rw [h2.vb.cell]; rfl
  have k0 : w3.cell? ⟨w.heap.size, 0, none⟩ = some (.int .i64 n) := by rw [(h2.own.blk (g := w.heap.size) (t := 3) (cs := #[.int .i64 n]) (by simp)).cell]; rfl
  obtain ⟨mv, l1, l2⟩ := h2.drew.lookups s.scope n
  rw [hl] at l2
  simp only [Option.map_none] at l2
  have HP := hide (place_global h2.drew n hl)
  have H2 := hide h2
  have HI := hide hi
  have HZ := hide hz0
  have HZ1 := hide hz1
  have HZ2 := hide hz2
  clear h h1 h2 hc hl HC q3 hz hi hz0 hz1 hz2
  go_region
  go_wp2_with fail
  refine (Calls.mono HP.out) ?_
  rintro r w4 ⟨g, rfl, hV, hf⟩
  have HF := hide hf
  clear c1 c4 k0 l1 l2 HP H2
  obtain ⟨q0, q1, q2, f0, f1, f2⟩ := cel_cells (hV.cel (mem_def hf))
  have e0 : w4.cell? ⟨w.heap.size, 0, none⟩ = some (.int .i64 n) := (hV.own.blk (g := w.heap.size) (t := 3) (cs := #[.int .i64 n]) (by simp)).cell 0
  have e1 : w4.cell? ⟨w.heap.size + 1, 0, none⟩ = some (.int .i64 k) := (hV.own.blk (g := w.heap.size + 1) (t := 29) (cs := #[.int .i64 k, .int .i64 m]) (by simp)).cell 0
  have e2 : w4.cell? ⟨w.heap.size + 1, 1, none⟩ = some (.int .i64 m) := (hV.own.blk (g := w.heap.size + 1) (t := 29) (cs := #[.int .i64 k, .int .i64 m]) (by simp)).cell 1
  have e3 : w4.cell? ⟨w.heap.size + 1 + 1, 0, none⟩ = some (.int .i64 0) := (hV.own.blk (g := w.heap.size + 1 + 1) (t := 3) (cs := #[.int .i64 0]) (by simp)).cell 0
  obtain ⟨A', c', hv, hv2, hv3⟩ := hV.sl.form
  have e4 : w4.cell? ⟨b.vb, 3, none⟩ = some (.slice A' (s.glob n g).notes.length c') := by rw [hV.vb.cell, ← hv]; rfl
  have hlen : (s.glob n g).notes.length = s.notes.length := by unfold Vst.glob; split <;> rfl
  have hd2 : (s.glob n g).notes.length < 2000 := by rw [hlen]; exact HD.out
  have hsl : Sl (w4.drew.alloc (.cells #[.int .i64 (s.dflt n).k, .int .i64 (s.dflt n).n, .bool (s.dflt n).b, .int .i64 n, .int .i64 0, .func (.func 36) #[] #[.pointer (some ⟨w.heap.size + 1 + 1, 0, none⟩), .pointer (some ⟨w.heap.size, 0, none⟩)]] 64)) 64 6 (.slice A' (s.glob n g).notes.length c') (s.glob n g).notes.length (rows Nte.cells (s.glob n g).notes) := by
    rw [← hv]
    exact (hV.sl.drew).alloc _
  have HV := hide ((hV.perm (List.Perm.cons _ (List.Perm.swap _ _ _))).drew.skip (.cells #[.int .i64 (s.dflt n).k, .int .i64 (s.dflt n).n, .bool (s.dflt n).b, .int .i64 n, .int .i64 0, .func (.func 36) #[] #[.pointer (some ⟨w.heap.size + 1 + 1, 0, none⟩), .pointer (some ⟨w.heap.size, 0, none⟩)]] 64))
  have HVV := hide hv
  have e5 : (w4.alloc (.cells #[.int .i64 (s.dflt n).k, .int .i64 (s.dflt n).n, .bool (s.dflt n).b, .int .i64 n, .int .i64 0, .func (.func 36) #[] #[.pointer (some ⟨w.heap.size + 1 + 1, 0, none⟩), .pointer (some ⟨w.heap.size, 0, none⟩)]] 64)).cell? ⟨b.vb, 3, none⟩ = some (.slice A' (s.glob n g).notes.length c') := by
    rw [(hV.vb.alloc _).cell, ← hv]
    rfl
  have n1 : b.vb ≠ g := hV.own.kind_ne (a := .cells 57 _) (b := celA (s.dflt n)) (by simp [Vst.heap, Vb.head]; exact .inl rfl) (mem_cells (mem_def hf)) (by simp [Ast.kind, celA])
  have n2 : b.vb ≠ w.heap.size := hV.own.kind_ne (a := .cells 57 _) (b := .cells 3 #[.int .i64 n]) (by simp [Vst.heap, Vb.head]; exact .inl rfl) (by simp) (by simp [Ast.kind])
  have n3 : b.vb ≠ w.heap.size + 1 + 1 := hV.own.kind_ne (a := .cells 57 _) (b := .cells 3 #[.int .i64 0]) (by simp [Vst.heap, Vb.head]; exact .inl rfl) (by simp) (by simp [Ast.kind])
  generalize hdd : s.dflt n = d at *
  generalize hss : s.glob n g = s1 at *
  have HDD := hide hdd
  have HSS := hide hss
  clear hdd hss
  have HSL := hide hsl
  have HX := hide fun (w5 : World) (ho : Only (fun i => b.nv.ownBlock = some i) (w4.drew.alloc (.cells #[.int .i64 d.k, .int .i64 d.n, .bool d.b, .int .i64 n, .int .i64 0, .func (.func 36) #[] #[.pointer (some ⟨w.heap.size + 1 + 1, 0, none⟩), .pointer (some ⟨w.heap.size, 0, none⟩)]] 64)) w5) => HV.out.only_cells (mem_def HF.out) ho
  clear hf hlen hsl hv hV hv2 hv3 HD f0 f1 f2
  go_upto_region 11 with fail
  go_cut [] (fun wx => ∃ v', VarsAt W wx (b.withNv v') (s1.addNote ⟨d, n, 0, w.heap.size + 1 + 1, w.heap.size⟩) ((w.heap.size + 1, .cells 29 #[.int .i64 k, .int .i64 m]) :: R))
  case first =>
    go_region_law
      ((refine step_append_sl rfl (.tmp 47) (.tmp 55) 55 rfl 64 i0 _ 6 48 Try.underlying55 HI.out HZ.out HZ1.out HZ2.out rfl _ s1.notes.length (rows Nte.cells s1.notes) rfl HSL.out _ rfl 1 _ (rd_elem w4.drew 64 6 (Nte.cells ⟨d, n, 0, w.heap.size + 1 + 1, w.heap.size⟩) rfl) (nte_one _) (by unfold maxLen; omega) (by omega) ?_; intro v' w5 hs5 ho5 hv5; rw [← HVV.out] at ho5 hv5; have hadd := HV.out.addNote (x := ⟨d, n, 0, w.heap.size + 1 + 1, w.heap.size⟩) hs5 ho5 hv5; obtain ⟨A2, c2, rfl, _⟩ := hs5.form; have c5 := hadd.1.cell 3; have f5 := hadd.1.frozen 3; obtain ⟨x0, x1, x2, x3, x4⟩ := HX.out w5 ho5; have HN := hide hadd.2; clear hs5 ho5 hv5 hadd))
    all_goals (go_wp2_with fail; go_meet; exact ⟨_, HN.out⟩)
  case rest =>
    obtain ⟨v', hN⟩ := hcut
    obtain ⟨p0, p1, p2, g0, g1, g2⟩ := cel_cells (hN.cel (mem_def (s := s1.addNote ⟨d, n, 0, w.heap.size + 1 + 1, w.heap.size⟩) HF.out))
    have hw := hN.own.blk (g := w.heap.size + 1) (t := 29) (cs := #[.int .i64 k, .int .i64 m]) (by simp)
    have r0 := hw.cell 0
    have r1 := hw.cell 1
    have HS := hide (hN.drop.store (mem_def (s := s1.addNote ⟨d, n, 0, w.heap.size + 1 + 1, w.heap.size⟩) HF.out) ⟨k, m, true⟩)
    clear hw hN
    go_wp2
    go_ret
    refine ⟨rfl, g, w.heap.size + 1 + 1, w.heap.size, v', ?_⟩
    rw [HDD.out, HSS.out]
    exact ⟨HF.out, HS.out⟩
theorem bind_global (h : VarsAt W w b s R) (n : Int) (hn : 0 ≤ n ∧ n < 16384) (hm : fndM s.marks n = none) (hd : s.notes.length < 2000) (hl : s.lcl s.scope n = none) (k m : Int) : Calls Try.prog 10 #[.pointer (some ⟨b.vb, 0, none⟩), .int .i64 n, .agg #[.int .i64 k, .int .i64 m]] w
    fun r w' => r = .returned (.int .i64 0) ∧ BoundG W b s R n k m w' := bind_glob h n (fun h1 => change_ok h1 n hn hm) hd hl k m
end
end Go.Proofs.Ytempnakdpmmmoaa
