/- The walk of VarsConst: it returns true and leaves everything that was there as it was. No condition. -/
import Derived.Test.YtempnakdpmmmoaaVarKeys
import Derived.Test.YtempnakdpmmmoaaVarDeep
import Derived.Deep.RegionHeld3
import Derived.IntWalk
namespace Go.Proofs.Ytempnakdpmmmoaa
open Go.RowKit
attribute [local go_sem] neq_cells

/-- No local values, no bindings; the constants are nil, t and, if c, N; the defaults are f. -/
structure Cst (W : World) (vb : Nat) (f : Int → Cel) (N : Int) (c : Bool) (R : Heap) (w : World) : Prop where
  at_ : ∃ b s, b.vb = vb ∧ VarsAt W w b s R ∧ s.locs = [] ∧ s.notes = [] ∧ (∀ m, s.dflt m = f m) ∧ ∀ m, 2 ≤ m → fndM s.marks m = if m = N ∧ c = true then some true else none
theorem fndM_snoc {l : List (Int × Bool)} {n : Int} (h : fndM l n = none) (m : Int) : fndM (l ++ [(n, true)]) m = if m = n then some true else fndM l m := by
  have h' : l.find? (fun x => n == x.1) = none := by
    unfold fndM at h
    cases hx : l.find? (fun x => n == x.1) with
    | none => rfl
    | some x => rw [hx] at h; cases h
  unfold fndM
  rw [List.find?_append]
  by_cases hm : m = n
  · subst hm
    rw [h']
    simp
  · have hb : (m == n) = false := by simpa using hm
    simp [List.find?_cons, hb, hm]
section
variable {W w w' : World} {vb : Nat} {f : Int → Cel} {N : Int} {c : Bool} {R : Heap}
theorem Sim.cst (h : Sim W vb f [] R w) (N : Int) : Cst W vb f N false R w := by
  obtain ⟨b, s, h1, h2, h3, h4, h5, h6, h7, h8⟩ := h.at_
  refine ⟨b, s, h1, h2, h3, by simpa using h7, h6, fun m hm => ?_⟩
  rw [h5, mark_none hm]
  simp
theorem Cst.below (h : Cst W vb f N c R w) (hb : Below w.heap.size w w') : Cst W vb f N c R w' := by
  obtain ⟨b, s, h1, h2, h3⟩ := h.at_
  exact ⟨b, s, h1, h2.below hb, h3⟩
theorem Cst.bel (h : Cst W vb f N c R w) : Below W.heap.size W w := by
  obtain ⟨b, s, h1, h2, h3⟩ := h.at_
  exact h2.own.bel
theorem cst_set (h : Cst W vb f N c R w) (n : Int) (hn : 2 ≤ n ∧ n < 16384) (hN : ¬ (n = N ∧ c = true)) (k m : Int) : Calls Try.prog 15 #[.pointer (some ⟨vb, 0, none⟩), .int .i64 n, .agg #[.int .i64 k, .int .i64 m]] w
    fun r w' => r = .returned (.int .i64 0) ∧ Cst W vb (put f n ⟨k, m, true⟩) N c R w' := by
  obtain ⟨b, s, rfl, h2, h3, h4, h5, h6⟩ := h.at_
  refine (set_ok h2 n (by omega) (by rw [h6 n hn.1, if_neg hN]) k m).mono ?_
  rintro r w' ⟨rfl, g, hV, ha⟩
  rw [placed_none h3] at hV ha
  obtain ⟨c', hc⟩ := at_none h3 ha
  refine ⟨rfl, b, _, rfl, hV, ?_, ?_, fun q => ?_, ?_⟩
  · rw [show ((s.glob n g).upd g ⟨k, m, true⟩).locs = _ from hV.updX_absent hc, glob_locs, h3]
  · show (s.glob n g).notes = _
    rw [glob_notes, h4]
  · have hnd := hV.defs_nodup
    rw [upd_blocks] at hnd
    rw [dflt_upd hnd hc, dflt_glob, h5]
    rfl
  · show ∀ m, 2 ≤ m → fndM (s.glob n g).marks m = _
    rw [glob_marks]
    exact h6
theorem cst_get (h : Cst W vb f N c R w) (n : Int) (hn : 0 ≤ n ∧ n < 16384) : Calls Try.prog 13 #[.pointer (some ⟨vb, 0, none⟩), .int .i64 n] w
    fun r w' => r = .returned (.tuple #[.agg #[.int .i64 (f n).k, .int .i64 (f n).n], .bool (f n).b]) ∧ Cst W vb f N c R w' := by
  obtain ⟨b, s, rfl, h2, h3, h4, h5, h6⟩ := h.at_
  refine (get_ok h2 n hn).mono ?_
  rw [now_none h3, h5]
  rintro r w' ⟨rfl, g, hV, ha⟩
  rw [placed_none h3] at hV ha
  refine ⟨rfl, b, _, rfl, hV, ?_, ?_, fun q => ?_, ?_⟩
  · rw [glob_locs, h3]
  · rw [glob_notes, h4]
  · rw [dflt_glob, h5]
  · rw [glob_marks]
    exact h6
theorem cst_scope (h : Cst W vb f N c R w) (k : Int) (hk : 1 ≤ k ∧ k ≤ 65536) : Calls Try.prog 16 #[.pointer (some ⟨vb, 0, none⟩), .int .i64 k] w
    fun r w' => r = .returned (.int .i64 0) ∧ Cst W vb f N c R w' := by
  obtain ⟨b, s, rfl, h2, h3, h4, h5, h6⟩ := h.at_
  refine (setscope_ok h2 k hk).mono ?_
  rintro r w' ⟨rfl, hV⟩
  exact ⟨rfl, b, _, rfl, hV, h3, h4, h5, h6⟩
theorem cst_mark (h : Cst W vb f N false R w) (hn : 2 ≤ N ∧ N < 16384) : Calls Try.prog 17 #[.pointer (some ⟨vb, 0, none⟩), .int .i64 N] w
    fun r w' => r = .returned (.int .i64 0) ∧ Cst W vb f N true R w' := by
  obtain ⟨b, s, rfl, h2, h3, h4, h5, h6⟩ := h.at_
  have hm : fndM s.marks N = none := by rw [h6 N hn.1]; simp
  refine (markconst_new h2 N (by omega) hm).mono ?_
  rintro r w' ⟨rfl, hV⟩
  refine ⟨rfl, b, _, rfl, hV, h3, h4, h5, fun m hm2 => ?_⟩
  show fndM (s.marks ++ [(N, true)]) m = _
  rw [fndM_snoc hm, h6 m hm2]
  simp
theorem cst_special (h : Cst W vb f N true R w) (hn : 2 ≤ N ∧ N < 16384) : Calls Try.prog 18 #[.pointer (some ⟨vb, 0, none⟩), .int .i64 N] w fun r w' => r = .returned (.bool true) ∧ w = w' := by
  obtain ⟨b, s, rfl, h2, h3, h4, h5, h6⟩ := h.at_
  exact special_const h2 N (by omega) (by rw [h6 N hn.1]; simp)
theorem cst_const (h : Cst W vb f N true R w) (hn : 2 ≤ N ∧ N < 16384) : Calls Try.prog 19 #[.pointer (some ⟨vb, 0, none⟩), .int .i64 N] w fun r w' => r = .returned (.bool true) ∧ w = w' := by
  obtain ⟨b, s, rfl, h2, h3, h4, h5, h6⟩ := h.at_
  exact const_const h2 N (by omega) (by rw [h6 N hn.1]; simp)
theorem cst_no_set (h : Cst W vb f N true R w) (hn : 2 ≤ N ∧ N < 16384) (k m : Int) : Calls Try.prog 15 #[.pointer (some ⟨vb, 0, none⟩), .int .i64 N, .agg #[.int .i64 k, .int .i64 m]] w
    fun r w' => r = .returned (.int .i64 10) ∧ Cst W vb f N true R w' := by
  obtain ⟨b, s, rfl, h2, h3, h4, h5, h6⟩ := h.at_
  exact (set_const h2 N (by omega) (by rw [h6 N hn.1]; simp) k m).mono fun _ _ hb => ⟨hb.1, h.below hb.2⟩
theorem cst_no_default (h : Cst W vb f N true R w) (hn : 2 ≤ N ∧ N < 16384) (k m : Int) : Calls Try.prog 23 #[.pointer (some ⟨vb, 0, none⟩), .int .i64 N, .agg #[.int .i64 k, .int .i64 m]] w
    fun r w' => r = .returned (.int .i64 10) ∧ Cst W vb f N true R w' := by
  obtain ⟨b, s, rfl, h2, h3, h4, h5, h6⟩ := h.at_
  exact (setdefault_const h2 N (by omega) (by rw [h6 N hn.1]; simp) k m).mono fun _ _ hb => ⟨hb.1, h.below hb.2⟩
theorem cst_no_bind (h : Cst W vb f N true R w) (hn : 2 ≤ N ∧ N < 16384) (k m : Int) : Calls Try.prog 10 #[.pointer (some ⟨vb, 0, none⟩), .int .i64 N, .agg #[.int .i64 k, .int .i64 m]] w
    fun r w' => r = .returned (.int .i64 10) ∧ Cst W vb f N true R w' := by
  obtain ⟨b, s, rfl, h2, h3, h4, h5, h6⟩ := h.at_
  exact (bind_const h2 N (by omega) (by rw [h6 N hn.1]; simp) k m).mono fun _ _ hb => ⟨hb.1, h.below hb.2⟩
theorem cst_no_clear (h : Cst W vb f N true R w) (hn : 2 ≤ N ∧ N < 16384) : Calls Try.prog 20 #[.pointer (some ⟨vb, 0, none⟩), .int .i64 N] w
    fun r w' => r = .returned (.int .i64 10) ∧ Cst W vb f N true R w' := by
  obtain ⟨b, s, rfl, h2, h3, h4, h5, h6⟩ := h.at_
  exact (clear_const h2 N (by omega) (by rw [h6 N hn.1]; simp)).mono fun _ _ hb => ⟨hb.1, h.below hb.2⟩
theorem cst_no_local (h : Cst W vb f N true R w) (hn : 2 ≤ N ∧ N < 16384) : Calls Try.prog 21 #[.pointer (some ⟨vb, 0, none⟩), .int .i64 N] w
    fun r w' => r = .returned (.int .i64 10) ∧ Cst W vb f N true R w' := by
  obtain ⟨b, s, rfl, h2, h3, h4, h5, h6⟩ := h.at_
  exact (makelocal_const h2 N (by omega) (by rw [h6 N hn.1]; simp)).mono fun _ _ hb => ⟨hb.1, h.below hb.2⟩
theorem cst_no_setlocal (h : Cst W vb f N true R w) (hn : 2 ≤ N ∧ N < 16384) (q : Int) (hq : 1 ≤ q ∧ q ≤ 65536) (k m : Int) : Calls Try.prog 22 #[.pointer (some ⟨vb, 0, none⟩), .int .i64 N, .int .i64 q, .agg #[.int .i64 k, .int .i64 m]] w
    fun r w' => r = .returned (.int .i64 10) ∧ Cst W vb f N true R w' := by
  obtain ⟨b, s, rfl, h2, h3, h4, h5, h6⟩ := h.at_
  exact (setlocal_const h2 N (by omega) (by rw [h6 N hn.1]; simp) q hq k m).mono fun _ _ hb => ⟨hb.1, h.below hb.2⟩
theorem cst_locals (h : Cst W vb f N c R w) (k : Int) : Calls Try.prog 24 #[.pointer (some ⟨vb, 0, none⟩), .int .i64 k] w
    fun r w' => r = .returned (.slice none 0 0) ∧ Cst W vb f N c R w' := by
  obtain ⟨b, s, rfl, h2, h3, h4, h5, h6⟩ := h.at_
  exact (locals_none h2 k (by rw [h3]; rfl)).mono fun _ _ hb => ⟨hb.1, h.below hb.2⟩
theorem cst_depth (h : Cst W vb f N c R w) : Calls Try.prog 14 #[.pointer (some ⟨vb, 0, none⟩)] w fun e w' => e = .returned (.int .i64 0) ∧ w = w' := by
  obtain ⟨b, s, rfl, h2, h3, h4, h5, h6⟩ := h.at_
  have := depth_any h2
  rw [h4] at this
  exact this
end
end Go.Proofs.Ytempnakdpmmmoaa
