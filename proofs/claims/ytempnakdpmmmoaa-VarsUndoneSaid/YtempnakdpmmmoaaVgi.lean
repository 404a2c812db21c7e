/- Variables: MakeLocal, KillLocal, SetLocal, Drop at any arguments, seen as functions. No condition but those written. -/
import Derived.Test.YtempnakdpmmmoaaVgh
namespace Go.Proofs.Ytempnakdpmmmoaa
open Go.RowKit
attribute [local go_sem] neq_cells eql_cells

theorem delete_nil_int {P : Program} {w : World} {t k e ty : TypeId} (ht : P.underlying t = some (.map k e)) (hk : P.underlying k = some (.int .i64)) (n : Int) : (Builtin.delete_ #[t, k] ty #[.map none, .int .i64 n]).run P w = .ok (.tuple #[]) w := by
  have hc : (Instr.checkKey true 10000 k (.int .i64 n)).run P w = .ok () w := run_checkKey_plain hk (.int _ n) _ 9999
  simp [Builtin.delete_, run_underlying ht, hc, Result.andThen]
def delX (l : List Loc) (k : Int) : List Loc := l.eraseP fun x => k == x.k
theorem locs_del (k : Int) : ∀ l : List Loc, mdel (locPairs l) (.int .i64 k) = locPairs (delX l k)
  | [] => rfl
  | e :: l => by
    have ih := locs_del k l
    simp only [locPairs, delX] at ih
    simp only [locPairs, delX, List.map_cons, mdel, keyEq_int, List.eraseP_cons]
    rw [ih]
    rcases Bool.eq_false_or_eq_true (k == e.k) with hc | hc <;> simp [hc]
theorem fndL_del {l : List Loc} (h : (l.map (·.k)).Nodup) (n q : Int) : fndL (delX l n) q = if q = n then none else fndL l q := by
  induction l with
  | nil => simp [delX, fndL]
  | cons e l ih =>
    rw [List.map_cons, List.nodup_cons] at h
    have ih := ih h.2
    unfold delX fndL at *
    rw [List.eraseP_cons]
    by_cases he : n = e.k
    · subst he
      simp only [BEq.rfl, cond_true]
      by_cases hq : q = e.k
      · subst hq
        rw [if_pos rfl]
        refine List.find?_eq_none.2 fun x hx => ?_
        have : e.k ≠ x.k := fun e1 => h.1 (List.mem_map.2 ⟨x, hx, e1.symm⟩)
        simpa using this
      · rw [if_neg hq, List.find?_cons]
        have : (q == e.k) = false := by simpa using hq
        rw [this]
    · have hb : (n == e.k) = false := by simpa using he
      rw [hb]
      simp only [cond_false, List.find?_cons]
      split
      · next hq =>
        have hq : q = e.k := by simpa using hq
        subst hq
        rw [if_neg (fun e1 => he e1.symm)]
      · exact ih
theorem sub_flat {α β : Type} {f : α → List β} : ∀ {l l' : List α}, l'.Sublist l → (l'.flatMap f).Sublist (l.flatMap f)
  | _, _, .slnil => List.Sublist.refl _
  | _, _, .cons x h => by
    rw [List.flatMap_cons]
    exact (sub_flat h).trans (List.sublist_append_right _ _)
  | _, _, .cons_cons x h => by
    rw [List.flatMap_cons, List.flatMap_cons]
    exact (List.Sublist.refl _).append (sub_flat h)
theorem Vst.Ok.scope {s : Vst} (h : s.Ok) {k : Int} (hk : 0 ≤ k ∧ k ≤ 65536) : (s.withScope k).Ok := ⟨h.dn, h.dr, h.ln, h.lr, h.en, hk, h.ns, h.nl⟩

/-! ### What is returned -/
def Vw.mklE (v : Vw) (n : Int) : Int := if v.chg n ≠ 0 then v.chg n else if v.S = 0 then 9 else 0
def Vw.mkl (v : Vw) (n : Int) : Vw := if v.mklE n = 0 ∧ v.l v.S n = none then v.put v.S n (v.d n) else v
def Vw.kilE (v : Vw) (n : Int) : Int := if varN n then (if v.S = 0 then 9 else 0) else 8
def Vw.kilV (v : Vw) (n : Int) : Vw := if v.kilE n = 0 then v.kil v.S n else v
def Vw.sloE (v : Vw) (n k : Int) : Int := if varN n then (if scpK k then (if v.m n = some true then 10 else 0) else 3) else 8
def Vw.slo (v : Vw) (n k : Int) (c : Cel) : Vw := if v.sloE n k = 0 then v.put k n c else v
def drpE (k : Int) : Int := if scpK k then 0 else 3
def Vw.drpV (v : Vw) (k : Int) : Vw := if drpE k = 0 then v.drp k else v
section
variable {W w w' : World} {b : Vb} {s : Vst} {R : Heap}
theorem VarsAt.vz (h : VarsAt W w b s R) (ok : s.Ok) : VZ W w b.vb s.view R := ⟨b, s, rfl, h, ok, rfl⟩
/-! ### MakeLocal -/
set_option maxRecDepth 100000 in
set_option maxHeartbeats 1000000 in
theorem make_bad (h : VarsAt W w b s R) (n : Int) (h0 : chgV s n ≠ 0) : Calls Try.prog 21 #[.pointer (some ⟨b.vb, 0, none⟩), .int .i64 n] w
    fun r w' => r = .returned (.int .i64 (chgV s n)) ∧ w = w' := by
  have HC := change_any h n
  obtain ⟨E, hE⟩ : ∃ E, E = chgV s n := ⟨_, rfl⟩
  rw [← hE] at HC h0 ⊢
  have HC := hide HC
  have z1 : decide (E = 0) = false := by simpa using h0
  have z2 : (E == 0) = false := by simpa using h0
  have z4 : (E != 0) = true := by simpa using h0
  have z3 : ¬ E = 0 := h0
  clear h hE
  go_enter Try.func21, Try.ntmps21
  go_wp2_with fail
  refine (Calls.mono (HC.out)) ?_
  rintro e w2 ⟨rfl, rfl⟩
  go_wp2
  go_ret
  exact ⟨rfl, rfl⟩
set_option maxRecDepth 100000 in
set_option maxHeartbeats 1000000 in
theorem make_state (h : VarsAt W w b s R) (n : Int) (h0 : chgV s n = 0) (hs : s.scope = 0) : Calls Try.prog 21 #[.pointer (some ⟨b.vb, 0, none⟩), .int .i64 n] w
    fun r w' => r = .returned (.int .i64 9) ∧ w = w' := by
  have HC := change_any h n
  rw [h0] at HC
  have HC := hide HC
  have c4 : w.cell? ⟨b.vb, 4, none⟩ = some (.int .i64 0) := by rw [h.vb.cell, ← hs]; rfl
  clear h h0 hs
  go_enter Try.func21, Try.ntmps21
  go_wp2_with fail
  refine (Calls.mono (HC.out)) ?_
  rintro e w2 ⟨rfl, rfl⟩
  go_wp2
  go_ret
  exact ⟨rfl, rfl⟩
set_option maxRecDepth 100000 in
set_option maxHeartbeats 1000000 in
theorem make_old (h : VarsAt W w b s R) (n : Int) (h0 : chgV s n = 0) (hs : s.scope ≠ 0) {e : Ent} (he : s.lcl s.scope n = some e) : Calls Try.prog 21 #[.pointer (some ⟨b.vb, 0, none⟩), .int .i64 n] w
    fun r w' => r = .returned (.int .i64 0) ∧ VarsAt W w' b s R := by
  have HC := change_any h n
  rw [h0] at HC
  have HC := hide HC
  have c4 : w.cell? ⟨b.vb, 4, none⟩ = some (.int .i64 s.scope) := by rw [h.vb.cell]; rfl
  have c1 : w.cell? ⟨b.vb, 1, none⟩ = some (.map (some b.lb)) := by rw [h.vb.cell]; rfl
  have hz : decide (s.scope = 0) = false := by simpa using hs
  obtain ⟨mv, l1, l2⟩ := h.drew.lookups s.scope n
  rw [he] at l2
  simp only [Option.map_some] at l2
  have HV := hide h.drew
  clear h h0 he
  go_enter Try.func21, Try.ntmps21
  go_wp2_with fail
  refine (Calls.mono (HC.out)) ?_
  rintro e w2 ⟨rfl, rfl⟩
  go_wp2
  go_region
  go_wp2
  go_ret
  exact ⟨rfl, HV.out⟩
set_option maxRecDepth 100000 in
set_option maxHeartbeats 1000000 in
theorem make_new (h : VarsAt W w b s R) (ok : s.Ok) (n : Int) (hn : varN n) (h0 : chgV s n = 0) (hs : s.scope ≠ 0) (he : s.lcl s.scope n = none) : Calls Try.prog 21 #[.pointer (some ⟨b.vb, 0, none⟩), .int .i64 n] w
    fun r w' => r = .returned (.int .i64 0) ∧ InV W b s R s.scope n (s.dflt n) w' := by
  have HC := change_any h n
  rw [h0] at HC
  have HC := hide HC
  have c4 : w.cell? ⟨b.vb, 4, none⟩ = some (.int .i64 s.scope) := by rw [h.vb.cell]; rfl
  have c1 : w.cell? ⟨b.vb, 1, none⟩ = some (.map (some b.lb)) := by rw [h.vb.cell]; rfl
  have hz : decide (s.scope = 0) = false := by simpa using hs
  obtain ⟨mv, l1, l2⟩ := h.drew.lookups s.scope n
  rw [he] at l2
  simp only [Option.map_none] at l2
  have HV := hide h.drew.drew
  have HIN := hide fun (w3 : World) (g : Nat) (h3 : VarsAt W w3 b (s.glob n g) R) => in_any (k := s.scope) h3 (glob_ok ok hn g) (by have := ok.sc; unfold scpK; omega) hn (by rw [glob_lcl]; exact he) (s.dflt n)
  clear h h0 he
  go_enter Try.func21, Try.ntmps21
  go_wp2_with fail
  refine (Calls.mono (HC.out)) ?_
  rintro e w2 ⟨rfl, rfl⟩
  go_wp2
  go_region
  go_wp2
  have d4 : w.drew.drew.cell? ⟨b.vb, 4, none⟩ = some (.int .i64 s.scope) := c4
  clear c4 c1 l1 l2 HC hn
  generalize w.drew = w5 at *
  go_region_with (first
    | (go_at_call 37; refine (global_any HV.out n).mono ?_; rintro r w3 ⟨g, rfl, hV3, hf⟩; obtain ⟨q0, q1, q2, f0, f1, f2⟩ := cel_cells (hV3.cel (mem_def hf)); have e4 := hV3.scope_glob; have HI := hide (HIN.out w3 g hV3); clear hV3 hf)
    | (go_at_call 42; refine (Calls.mono HI.out) ?_; rintro r w4 ⟨g2, rfl, hV4⟩; have HE := hide hV4; clear hV4))
  all_goals
    go_wp2
    go_ret
    refine ⟨rfl, ?_⟩
    obtain ⟨s', j1, j2, j3⟩ := HE.out
    exact ⟨s', j1, j2, by rw [j3, glob_view]⟩
end
section
variable {W w w' : World} {vb : Nat} {v : Vw} {R : Heap}
theorem chg_var {v : Vw} {n : Int} (h : v.chg n = 0) : varN n := by
  unfold Vw.chg at h
  split at h
  · assumption
  · cases h
theorem VZ.make (h : VZ W w vb v R) (n : Int) : Calls Try.prog 21 #[.pointer (some ⟨vb, 0, none⟩), .int .i64 n] w
    fun r w' => r = .returned (.int .i64 (v.mklE n)) ∧ VZ W w' vb (v.mkl n) R := by
  obtain ⟨b, s, rfl, hV, ok, rfl⟩ := h.at_
  by_cases h0 : s.view.chg n = 0
  · have hn := chg_var h0
    by_cases hs : s.scope = 0
    · have e1 : s.view.mklE n = 9 := by unfold Vw.mklE; rw [if_neg (by simp [h0])]; exact if_pos hs
      have e2 : s.view.mkl n = s.view := by unfold Vw.mkl; rw [e1]; exact if_neg (by simp)
      rw [e1, e2]
      exact (make_state hV n h0 hs).mono fun _ _ hb => ⟨hb.1, hb.2 ▸ hV.vz ok⟩
    · have e1 : s.view.mklE n = 0 := by unfold Vw.mklE; rw [if_neg (by simp [h0])]; exact if_neg hs
      rw [e1]
      cases he : s.lcl s.scope n with
      | some e =>
        have e2 : s.view.mkl n = s.view := if_neg fun j => by
          have := j.2
          rw [view_l, show s.view.S = s.scope from rfl, he] at this
          cases this
        rw [e2]
        exact (make_old hV n h0 hs he).mono fun _ _ hb => ⟨hb.1, hb.2.vz ok⟩
      | none =>
        have e2 : s.view.mkl n = s.view.put s.scope n (s.dflt n) := if_pos ⟨e1, by rw [view_l, show s.view.S = s.scope from rfl, he]; rfl⟩
        rw [e2]
        refine (make_new hV ok n hn h0 hs he).mono ?_
        rintro r w' ⟨rfl, s', j1, j2, j3⟩
        exact ⟨rfl, b, s', rfl, j1, j2, j3⟩
  · have e1 : s.view.mklE n = s.view.chg n := if_pos h0
    have e2 : s.view.mkl n = s.view := by unfold Vw.mkl; rw [e1]; exact if_neg fun j => h0 j.1
    rw [e1, e2]
    exact (make_bad hV n h0).mono fun _ _ hb => ⟨hb.1, hb.2 ▸ hV.vz ok⟩
end
end Go.Proofs.Ytempnakdpmmmoaa
