/- What the methods do at local values: Local, KillLocal, Drop, Locals of an empty map. No condition but those written. -/
import Derived.Test.YtempnakdpmmmoaaVarLoc4
namespace Go.Proofs.Ytempnakdpmmmoaa
open Go.RowKit Go.Shelf Go.Maps
attribute [local go_sem] neq_cells eql_cells

section
variable {W w w' : World} {b : Vb} {s : Vst} {R : Heap}
theorem VarsAt.part {M : Heap} (h : VarsAt W w b s (M ++ R)) : VarsAt W w b s R := h.sub (List.sublist_append_right _ _)
theorem VarsAt.lookLocal (h : VarsAt W w b s R) {k n : Int} {e : Ent} (he : s.lcl k n = some e) :
    ∃ x, (Instr.lookup 53 (.map (some b.lb)) (.int .i64 k) false).run Try.prog w = .ok (.map (some x)) w ∧ (Instr.lookup 52 (.map (some x)) (.int .i64 n) false).run Try.prog w = .ok (.pointer (some ⟨e.g, 0, none⟩)) w := by
  have hl := (h.lb).lookup (P := Try.prog) (loc_keys s.locs) Try.underlying53 Try.underlying3 (.int _ k) (zero_map w) false
  rw [loc_get] at hl
  cases hx : fndL s.locs k with
  | none =>
    unfold Vst.lcl Vst.inner at he
    rw [hx] at he
    simp [fnd] at he
  | some x =>
    rw [hx] at hl
    rw [lcl_eq hx] at he
    have hi := (h.loc (fndL_mem hx).1).lookup (P := Try.prog) (ent_keys _) Try.underlying52 Try.underlying3 (.int _ n) (zero_ptr w) false
    rw [ent_get, he] at hi
    exact ⟨x.g, hl, hi⟩
set_option maxRecDepth 100000 in
set_option maxHeartbeats 1000000 in
theorem local_some (h : VarsAt W w b s R) (n k : Int) (e : Ent) (he : s.lcl k n = some e) : Calls Try.prog 25 #[.pointer (some ⟨b.vb, 0, none⟩), .int .i64 n, .int .i64 k] w
    fun r w' => r = .returned (.tuple #[.agg #[.int .i64 e.c.k, .int .i64 e.c.n], .bool e.c.b]) ∧ VarsAt W w' b s R := by
  have h1 := h.box 29 #[.int .i64 0, .int .i64 0]
  have HI := hide (islocal_any h1 n k)
  rw [he] at HI
  have c1 : (w.alloc (.cells #[.int .i64 0, .int .i64 0] 29)).cell? ⟨b.vb, 1, none⟩ = some (.map (some b.lb)) := by rw [h1.vb.cell]; rfl
  obtain ⟨x, hl, hi⟩ := h1.lookLocal he
  obtain ⟨q0, q1, q2, f0, f1, f2⟩ := cel_cells (h1.cel (mem_lcl he))
  have b3 := h1.own.blk (g := w.heap.size) (t := 29) (cs := #[.int .i64 0, .int .i64 0]) (by simp)
  have l0 : (w.alloc (.cells #[.int .i64 0, .int .i64 0] 29)).cell? ⟨w.heap.size, 0, none⟩ = some (.int .i64 0) := b3.cell 0
  have l1 : (w.alloc (.cells #[.int .i64 0, .int .i64 0] 29)).cell? ⟨w.heap.size, 1, none⟩ = some (.int .i64 0) := b3.cell 1
  have p0 := b3.frozen 0
  have p1 := b3.frozen 1
  have HK := hide ((b3.set_ 0 (.int .i64 e.c.k)).set_ 1 (.int .i64 e.c.n))
  have h4 := (h1.own.perm List.perm_middle).setCell 0 (.int .i64 e.c.k)
  have HV := hide (show VarsAt W (((w.alloc (.cells #[.int .i64 0, .int .i64 0] 29)).setCell ⟨w.heap.size, 0, none⟩ (.int .i64 e.c.k)).setCell ⟨w.heap.size, 1, none⟩ (.int .i64 e.c.n)) b s R from
    h1.drop.re (h4.setCell 1 (.int .i64 e.c.n)).tail)
  clear h h1 he h4 b3
  go_enter Try.func25, Try.ntmps25
  go_wp2_with fail
  refine (Calls.mono HI.out) ?_
  rintro e' w2 ⟨rfl, rfl⟩
  clear HI
  generalize w.alloc (.cells #[.int .i64 0, .int .i64 0] 29) = w1 at *
  go_wp2
  go_region
  all_goals
    go_wp2
    refine bodyPost_ret (v := .tuple #[.agg #[.int .i64 e.c.k, .int .i64 e.c.n], .bool e.c.b]) ?_ rfl ⟨rfl, HV.out.drew⟩
    rw [results_cell_tmp rfl]
    show ((loadVar 29 ⟨w.heap.size, 0, none⟩).run Try.prog _).andThen _ = _
    rw [run_loadVar_row _ w.heap.size 29 29 #[.int .i64 e.c.k, .int .i64 e.c.n] (0, 0) _ HK.out.drew Try.underlying29 rfl (by kernel_rfl)]
    rfl
set_option maxRecDepth 100000 in
set_option maxHeartbeats 1000000 in
theorem kill_any (h : VarsAt W w b s R) {l1 l2 : List Loc} {x : Loc} (hx : s.locs = l1 ++ x :: l2) (hk : x.k = s.scope) (h1 : ∀ y ∈ l1, y.k ≠ s.scope) (h0 : s.scope ≠ 0) (n : Int) (hn : 0 ≤ n ∧ n < 16384) :
    Calls Try.prog 26 #[.pointer (some ⟨b.vb, 0, none⟩), .int .i64 n] w
    fun r w' => r = .returned (.int .i64 0) ∧ VarsAt W w' b (s.withLocs (l1 ++ { x with es := delE x.es n } :: l2)) R := by
  have HC := hide (check_ok h n hn)
  have c4 : w.cell? ⟨b.vb, 4, none⟩ = some (.int .i64 s.scope) := by rw [h.vb.cell]; rfl
  have c1 : w.cell? ⟨b.vb, 1, none⟩ = some (.map (some b.lb)) := by rw [h.vb.cell]; rfl
  have hz : decide (s.scope = 0) = false := by simpa using h0
  have hl := (h.drew.lb).lookup (P := Try.prog) (loc_keys s.locs) Try.underlying53 Try.underlying3 (.int _ s.scope) (zero_map w.drew) false
  rw [loc_get, hx, fnd_at h1 hk] at hl
  simp only [Option.map_some, Option.getD_some, Bool.false_eq_true, if_false] at hl
  obtain ⟨w4, hr, hm4, ho4⟩ := (h.drew.loc (x := x) (by rw [hx]; simp)).delete (P := Try.prog) (ent_keys x.es) Try.underlying52 Try.underlying3 (.int _ n) 3 0
  rw [ent_del] at hm4
  obtain ⟨M, hM⟩ := List.Sublist.exists_perm_append (show (entHeap (delE x.es n)).Sublist (entHeap x.es) from (List.eraseP_sublist ..).map _)
  have h4 := h.drew.reinner (R' := M ++ R) hx ho4 hm4 ((hM.append_right R).trans (by rw [List.append_assoc]))
  have HV := hide h4.part
  clear h hx hk h1 hm4 ho4 h4 hM
  go_enter Try.func26, Try.ntmps26
  go_wp2_with fail
  refine (Calls.mono HC.out) ?_
  rintro e w2 ⟨rfl, rfl⟩
  go_wp2
  go_region
  go_wp2
  go_ret
  exact ⟨rfl, HV.out⟩
end
end Go.Proofs.Ytempnakdpmmmoaa
