/- Variables: KillLocal, SetLocal, Drop at any arguments. No condition but those written. -/
import Derived.Test.YtempnakdpmmmoaaVgi
namespace Go.Proofs.Ytempnakdpmmmoaa
open Go.RowKit
attribute [local go_sem] neq_cells eql_cells

section
variable {W w w' : World} {b : Vb} {s : Vst} {R : Heap}
/-! ### KillLocal -/
set_option maxRecDepth 100000 in
set_option maxHeartbeats 1000000 in
theorem kill_bad (h : VarsAt W w b s R) (n : Int) (hn : ¬ varN n) : Calls Try.prog 26 #[.pointer (some ⟨b.vb, 0, none⟩), .int .i64 n] w
    fun r w' => r = .returned (.int .i64 8) ∧ w = w' := by
  have HC := hide (check_unknown h n hn)
  clear h hn
  go_enter Try.func26, Try.ntmps26
  go_wp2_with fail
  refine (Calls.mono (HC.out)) ?_
  rintro e w2 ⟨rfl, rfl⟩
  go_wp2
  go_ret
  exact ⟨rfl, rfl⟩
set_option maxRecDepth 100000 in
set_option maxHeartbeats 1000000 in
theorem kill_state (h : VarsAt W w b s R) (n : Int) (hn : varN n) (hs : s.scope = 0) : Calls Try.prog 26 #[.pointer (some ⟨b.vb, 0, none⟩), .int .i64 n] w
    fun r w' => r = .returned (.int .i64 9) ∧ w = w' := by
  have HC := hide (check_ok h n hn)
  have c4 : w.cell? ⟨b.vb, 4, none⟩ = some (.int .i64 0) := by rw [h.vb.cell, ← hs]; rfl
  clear h hn hs
  go_enter Try.func26, Try.ntmps26
  go_wp2_with fail
  refine (Calls.mono (HC.out)) ?_
  rintro e w2 ⟨rfl, rfl⟩
  go_wp2
  go_ret
  exact ⟨rfl, rfl⟩
set_option maxRecDepth 100000 in
set_option maxHeartbeats 1000000 in
theorem kill_none (h : VarsAt W w b s R) (n : Int) (hn : varN n) (h0 : s.scope ≠ 0) (hk : fndL s.locs s.scope = none) : Calls Try.prog 26 #[.pointer (some ⟨b.vb, 0, none⟩), .int .i64 n] w
    fun r w' => r = .returned (.int .i64 0) ∧ VarsAt W w' b s R := by
  have HC := hide (check_ok h n hn)
  have c4 : w.cell? ⟨b.vb, 4, none⟩ = some (.int .i64 s.scope) := by rw [h.vb.cell]; rfl
  have c1 : w.cell? ⟨b.vb, 1, none⟩ = some (.map (some b.lb)) := by rw [h.vb.cell]; rfl
  have hz : decide (s.scope = 0) = false := by simpa using h0
  have hl := (h.drew.lb).lookup (P := Try.prog) (loc_keys s.locs) Try.underlying53 Try.underlying3 (.int _ s.scope) (zero_map w.drew) false
  rw [loc_get, hk] at hl
  simp only [Option.map_none, Option.getD_none, Bool.false_eq_true, if_false] at hl
  have hr : (Builtin.delete_ #[52, 3] 0 #[.map none, .int .i64 n]).run Try.prog w.drew = .ok (.tuple #[]) w.drew := delete_nil_int Try.underlying52 Try.underlying3 n
  have HV := hide h.drew
  clear h hk
  go_enter Try.func26, Try.ntmps26
  go_wp2_with fail
  refine (Calls.mono (HC.out)) ?_
  rintro e w2 ⟨rfl, rfl⟩
  go_wp2
  go_region
  go_wp2
  go_ret
  exact ⟨rfl, HV.out⟩
/-! ### SetLocal -/
set_option maxRecDepth 100000 in
set_option maxHeartbeats 1000000 in
theorem setlocal_bad (h : VarsAt W w b s R) (n : Int) (q : Int) (k m : Int) (hE : s.view.sloE n q ≠ 0) :
    Calls Try.prog 22 #[.pointer (some ⟨b.vb, 0, none⟩), .int .i64 n, .int .i64 q, .agg #[.int .i64 k, .int .i64 m]] w
    fun r w' => r = .returned (.int .i64 (s.view.sloE n q)) ∧ VarsAt W w' b s R := by
  have h1 := h.skip (.cells #[.int .i64 k, .int .i64 m] 29)
  have HC := check_any h1 n
  have HS := hide (scoped_any q)
  have HK := const_any h1 n
  have HV := hide h1
  unfold Vw.sloE at hE ⊢
  unfold chkV at HC
  by_cases hn : varN n
  · rw [if_pos hn] at HC hE ⊢
    have HC := hide HC
    by_cases hq : scpK q
    · rw [if_pos hq] at hE ⊢
      have hm : s.view.m n = some true := by
        by_cases e : s.view.m n = some true
        · exact e
        · rw [if_neg e] at hE; exact absurd rfl hE
      rw [if_pos hm]
      rw [decide_eq_true hq] at HS
      rw [show cstV s n = true by unfold cstV; rw [decide_eq_true hn, show fndM s.marks n = some true from hm]; rfl] at HK
      have HK := hide HK
      clear h h1 hn hq hm hE
      go_enter Try.func22, Try.ntmps22
      go_wp2_with fail
      refine (Calls.mono (HC.out)) ?_
      rintro e w2 ⟨rfl, rfl⟩
      go_wp2_with fail
      refine (Calls.mono (HS.out _)) ?_
      rintro e w2 ⟨rfl, rfl⟩
      go_wp2_with fail
      refine (Calls.mono (HK.out)) ?_
      rintro e w2 ⟨rfl, rfl⟩
      go_wp2
      go_ret
      exact ⟨rfl, HV.out⟩
    · rw [if_neg hq]
      rw [decide_eq_false hq] at HS
      clear h h1 hn hq HK hE
      go_enter Try.func22, Try.ntmps22
      go_wp2_with fail
      refine (Calls.mono (HC.out)) ?_
      rintro e w2 ⟨rfl, rfl⟩
      go_wp2_with fail
      refine (Calls.mono (HS.out _)) ?_
      rintro e w2 ⟨rfl, rfl⟩
      go_wp2
      go_ret
      exact ⟨rfl, HV.out⟩
  · rw [if_neg hn] at HC ⊢
    have HC := hide HC
    clear h h1 hn HK HS hE
    go_enter Try.func22, Try.ntmps22
    go_wp2_with fail
    refine (Calls.mono (HC.out)) ?_
    rintro e w2 ⟨rfl, rfl⟩
    go_wp2
    go_ret
    exact ⟨rfl, HV.out⟩
theorem const_free (h : VarsAt W w b s R) (n : Int) (h0 : chgV s n = 0) : Calls Try.prog 19 #[.pointer (some ⟨b.vb, 0, none⟩), .int .i64 n] w fun e w' => e = .returned (.bool false) ∧ w = w' := by
  have h1 := const_any h n
  have : cstV s n = false := by
    unfold cstV
    unfold chgV at h0
    split at h0
    · split at h0
      · cases h0
      · next hm => rw [Bool.and_eq_false_iff]; right; simpa using hm
    · cases h0
  rwa [this] at h1
set_option maxRecDepth 100000 in
set_option maxHeartbeats 1000000 in
theorem setlocal_old (h : VarsAt W w b s R) (n : Int) (h0 : chgV s n = 0) (q : Int) (hq : scpK q) {en : Ent} (he : s.lcl q n = some en) (k m : Int) :
    Calls Try.prog 22 #[.pointer (some ⟨b.vb, 0, none⟩), .int .i64 n, .int .i64 q, .agg #[.int .i64 k, .int .i64 m]] w
    fun r w' => r = .returned (.int .i64 0) ∧ VarsAt W w' b (s.upd en.g ⟨k, m, true⟩) R := by
  have h1 := h.box 29 #[.int .i64 k, .int .i64 m]
  have HC := hide (check_ok h1 n (chg_var (show s.view.chg n = 0 from h0)))
  have HS := scoped_any q
  rw [decide_eq_true hq] at HS
  have HS := hide HS
  have HK := hide (const_free h1 n h0)
  have c1 : (w.alloc (.cells #[.int .i64 k, .int .i64 m] 29)).cell? ⟨b.vb, 1, none⟩ = some (.map (some b.lb)) := by rw [h1.vb.cell]; rfl
  obtain ⟨mv, l1, l2⟩ := h1.lookups q n
  rw [he] at l2
  simp only [Option.map_some] at l2
  obtain ⟨q0, q1, q2, f0, f1, f2⟩ := cel_cells (h1.cel (mem_lcl he))
  have b0 := (h1.own.blk (g := w.heap.size) (t := 29) (cs := #[.int .i64 k, .int .i64 m]) (by simp))
  have k0 : (w.alloc (.cells #[.int .i64 k, .int .i64 m] 29)).cell? ⟨w.heap.size, 0, none⟩ = some (.int .i64 k) := b0.cell 0
  have k1 : (w.alloc (.cells #[.int .i64 k, .int .i64 m] 29)).cell? ⟨w.heap.size, 1, none⟩ = some (.int .i64 m) := b0.cell 1
  have HV := hide (h1.drop.store (mem_lcl he) ⟨k, m, true⟩)
  clear h h1 h0 hq b0 he
  go_enter Try.func22, Try.ntmps22
  go_wp2_with fail
  refine (Calls.mono (HC.out)) ?_
  rintro e w2 ⟨rfl, rfl⟩
  go_wp2_with fail
  refine (Calls.mono (HS.out _)) ?_
  rintro e w2 ⟨rfl, rfl⟩
  go_wp2_with fail
  refine (Calls.mono (HK.out)) ?_
  rintro e w2 ⟨rfl, rfl⟩
  clear HC HS HK
  generalize w.alloc (.cells #[.int .i64 k, .int .i64 m] 29) = w1 at *
  go_wp2
  go_ret
  exact ⟨rfl, HV.out⟩
set_option maxRecDepth 100000 in
set_option maxHeartbeats 1000000 in
theorem setlocal_none (h : VarsAt W w b s R) (ok : s.Ok) (n : Int) (h0 : chgV s n = 0) (q : Int) (hq : scpK q) (he : s.lcl q n = none) (k m : Int) :
    Calls Try.prog 22 #[.pointer (some ⟨b.vb, 0, none⟩), .int .i64 n, .int .i64 q, .agg #[.int .i64 k, .int .i64 m]] w
    fun r w' => r = .returned (.int .i64 0) ∧ InV W b s R q n ⟨k, m, true⟩ w' := by
  have h1 := h.box 29 #[.int .i64 k, .int .i64 m]
  have HC := hide (check_ok h1 n (chg_var (show s.view.chg n = 0 from h0)))
  have HS := scoped_any q
  rw [decide_eq_true hq] at HS
  have HS := hide HS
  have HK := hide (const_free h1 n h0)
  have HI := hide (in_any h1.drop ok hq (chg_var (show s.view.chg n = 0 from h0)) he ⟨k, m, true⟩)
  have c1 : (w.alloc (.cells #[.int .i64 k, .int .i64 m] 29)).cell? ⟨b.vb, 1, none⟩ = some (.map (some b.lb)) := by rw [h1.vb.cell]; rfl
  obtain ⟨mv, l1, l2⟩ := h1.lookups q n
  rw [he] at l2
  simp only [Option.map_none] at l2
  have b0 := (h1.own.blk (g := w.heap.size) (t := 29) (cs := #[.int .i64 k, .int .i64 m]) (by simp))
  have k0 : (w.alloc (.cells #[.int .i64 k, .int .i64 m] 29)).cell? ⟨w.heap.size, 0, none⟩ = some (.int .i64 k) := b0.cell 0
  have k1 : (w.alloc (.cells #[.int .i64 k, .int .i64 m] 29)).cell? ⟨w.heap.size, 1, none⟩ = some (.int .i64 m) := b0.cell 1
  clear h h1 h0 hq b0 he
  go_enter Try.func22, Try.ntmps22
  go_wp2_with fail
  refine (Calls.mono (HC.out)) ?_
  rintro e w2 ⟨rfl, rfl⟩
  go_wp2_with fail
  refine (Calls.mono (HS.out _)) ?_
  rintro e w2 ⟨rfl, rfl⟩
  go_wp2_with fail
  refine (Calls.mono (HK.out)) ?_
  rintro e w2 ⟨rfl, rfl⟩
  clear HC HS HK
  generalize w.alloc (.cells #[.int .i64 k, .int .i64 m] 29) = w1 at *
  go_wp2_with fail
  refine (Calls.mono (HI.out)) ?_
  rintro e w2 ⟨g, rfl, hI⟩
  have HV := hide hI
  clear hI HI
  go_wp2
  go_ret
  exact ⟨rfl, HV.out⟩
/-! ### Drop -/
theorem VarsAt.dropped (h : VarsAt W w b s R) (k : Int) : ∃ w4, (Builtin.delete_ #[53, 3] 0 #[.map (some b.lb), .int .i64 k]).run Try.prog w = .ok (.tuple #[]) w4 ∧ VarsAt W w4 b (s.withLocs (delX s.locs k)) R := by
  obtain ⟨w4, hr, hm4, ho4⟩ := (h.lb).delete (P := Try.prog) (loc_keys s.locs) Try.underlying53 Try.underlying3 (.int _ k) 3 0
  rw [locs_del] at hm4
  obtain ⟨M, hM⟩ := List.Sublist.exists_perm_append (show (locHeap (delX s.locs k)).Sublist (locHeap s.locs) from sub_flat (List.eraseP_sublist ..))
  exact ⟨w4, hr, (h.relocs (R' := M ++ R) ho4 hm4 ((hM.append_right R).trans (by rw [List.append_assoc]))).part⟩
set_option maxRecDepth 100000 in
set_option maxHeartbeats 1000000 in
theorem drop_bad (h : VarsAt W w b s R) (k : Int) (hk : ¬ scpK k) : Calls Try.prog 27 #[.pointer (some ⟨b.vb, 0, none⟩), .int .i64 k] w
    fun r w' => r = .returned (.int .i64 3) ∧ w = w' := by
  have HM := hide (made_any h)
  have HS := scoped_any k
  rw [decide_eq_false hk] at HS
  have HS := hide HS
  clear h hk
  go_enter Try.func27, Try.ntmps27
  go_wp2_with fail
  refine (Calls.mono (HM.out)) ?_
  rintro e w2 ⟨rfl, rfl⟩
  go_wp2_with fail
  refine (Calls.mono (HS.out _)) ?_
  rintro e w2 ⟨rfl, rfl⟩
  go_wp2
  go_ret
  exact ⟨rfl, rfl⟩
set_option maxRecDepth 100000 in
set_option maxHeartbeats 1000000 in
theorem drop_ok (h : VarsAt W w b s R) (k : Int) (hk : scpK k) : Calls Try.prog 27 #[.pointer (some ⟨b.vb, 0, none⟩), .int .i64 k] w
    fun r w' => r = .returned (.int .i64 0) ∧ VarsAt W w' b ((s.withLocs (delX s.locs k)).withScope (if s.scope = k then 0 else s.scope)) R := by
  have HM := hide (made_any h)
  have HS := scoped_any k
  rw [decide_eq_true hk] at HS
  have HS := hide HS
  have c1 : w.cell? ⟨b.vb, 1, none⟩ = some (.map (some b.lb)) := by rw [h.vb.cell]; rfl
  obtain ⟨w4, hr, h5⟩ := h.dropped k
  have c4 : w4.cell? ⟨b.vb, 4, none⟩ = some (.int .i64 s.scope) := by rw [h5.vb.cell]; rfl
  have f4 := h5.vb.frozen 4
  by_cases hs : s.scope = k
  · rw [if_pos hs]
    have HV := hide (h5.rescope 0)
    have hz : decide (s.scope = k) = true := by simpa using hs
    rw [hs] at c4
    clear h h5 hk hs hz
    go_enter Try.func27, Try.ntmps27
    go_wp2_with fail
    refine (Calls.mono (HM.out)) ?_
    rintro e w2 ⟨rfl, rfl⟩
    go_wp2_with fail
    refine (Calls.mono (HS.out _)) ?_
    rintro e w2 ⟨rfl, rfl⟩
    go_wp2
    go_ret
    exact ⟨rfl, HV.out⟩
  · rw [if_neg hs]
    have HV := hide h5
    have hz : decide (s.scope = k) = false := by simpa using hs
    clear h h5 hk
    go_enter Try.func27, Try.ntmps27
    go_wp2_with fail
    refine (Calls.mono (HM.out)) ?_
    rintro e w2 ⟨rfl, rfl⟩
    go_wp2_with fail
    refine (Calls.mono (HS.out _)) ?_
    rintro e w2 ⟨rfl, rfl⟩
    go_wp2
    go_ret
    exact ⟨rfl, HV.out⟩
end
end Go.Proofs.Ytempnakdpmmmoaa
