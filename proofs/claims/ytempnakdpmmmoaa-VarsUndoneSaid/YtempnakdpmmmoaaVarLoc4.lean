/- What the methods do at local values: MakeLocal, Local, KillLocal, Drop, Locals of an empty map. No condition but those written. -/
import Derived.Test.YtempnakdpmmmoaaVarLoc3
import Derived.Test.YtempnakdpmmmoaaVarKeys
namespace Go.Proofs.Ytempnakdpmmmoaa
open Go.RowKit Go.Shelf Go.Maps
attribute [local go_sem] neq_cells eql_cells

def delE (l : List Ent) (n : Int) : List Ent := l.eraseP fun e => n == e.n
theorem ent_del (n : Int) : ∀ l : List Ent, mdel (entPairs l) (.int .i64 n) = entPairs (delE l n)
  | [] => rfl
  | e :: l => by
    have ih := ent_del n l
    simp only [entPairs, delE] at ih
    simp only [entPairs, delE, List.map_cons, mdel, keyEq_int, List.eraseP_cons]
    rw [ih]
    rcases Bool.eq_false_or_eq_true (n == e.n) with hc | hc <;> simp [hc]
theorem loc_del {k : Int} {l1 l2 : List Loc} {x : Loc} (h : ∀ y ∈ l1, y.k ≠ k) (hk : x.k = k) : mdel (locPairs (l1 ++ x :: l2)) (.int .i64 k) = locPairs (l1 ++ l2) := by
  induction l1 with
  | nil => subst hk; simp [locPairs, mdel, keyEq_int]
  | cons y l1 ih =>
    have hy : (k == y.k) = false := by simpa using fun e => h y (List.mem_cons_self ..) e.symm
    have ih := ih fun z hz => h z (List.mem_cons_of_mem _ hz)
    simp only [locPairs] at ih
    simp only [locPairs, List.cons_append, List.map_cons, mdel, keyEq_int, hy, Bool.false_eq_true, if_false]
    rw [ih]
section
variable {W w w' : World} {b : Vb} {s : Vst} {R : Heap}
theorem VarsAt.scope_glob {n : Int} {g : Nat} (h : VarsAt W w b (s.glob n g) R) : w.cell? ⟨b.vb, 4, none⟩ = some (.int .i64 s.scope) := by
  rw [h.vb.cell, ← glob_scope s n g]
  rfl
set_option maxRecDepth 100000 in
set_option maxHeartbeats 1000000 in
theorem makelocal_new (h : VarsAt W w b s R) (n : Int) (hn : 0 ≤ n ∧ n < 16384) (hm : fndM s.marks n = none) (hk : fndL s.locs s.scope = none) (h0 : s.scope ≠ 0) :
    Calls Try.prog 21 #[.pointer (some ⟨b.vb, 0, none⟩), .int .i64 n] w
    fun r w' => r = .returned (.int .i64 0) ∧ ∃ g gm g2, VarsAt W w' b ((s.glob n g).withLocs (s.locs ++ [⟨s.scope, gm, [⟨n, g2, s.dflt n⟩]⟩])) R := by
  have HC := hide (change_ok h n hn hm)
  have c4 : w.cell? ⟨b.vb, 4, none⟩ = some (.int .i64 s.scope) := by rw [h.vb.cell]; rfl
  have c1 : w.cell? ⟨b.vb, 1, none⟩ = some (.map (some b.lb)) := by rw [h.vb.cell]; rfl
  have hz : decide (s.scope = 0) = false := by simpa using h0
  have hl := (h.drew.lb).lookup (P := Try.prog) (loc_keys s.locs) Try.underlying53 Try.underlying3 (.int _ s.scope) (zero_map w.drew) false
  rw [loc_get, hk] at hl
  simp only [Option.map_none, Option.getD_none, Bool.false_eq_true, if_false] at hl
  have hi := lookup_nil (P := Try.prog) Try.underlying52 Try.underlying3 (.int _ n) (zero_ptr w.drew) false
  simp only [Bool.false_eq_true, if_false] at hi
  have HV := hide h.drew.drew
  have HIN := hide fun (w3 : World) (g : Nat) (h3 : VarsAt W w3 b (s.glob n g) R) => in_new (k := s.scope) h3 (by rw [glob_locs]; exact hk) n (s.dflt n)
  clear h hm hk
  go_enter Try.func21, Try.ntmps21
  go_wp2_with fail
  refine (Calls.mono HC.out) ?_
  rintro e w2 ⟨rfl, rfl⟩
  go_wp2
  go_region
  go_wp2
  have d4 : w.drew.drew.cell? ⟨b.vb, 4, none⟩ = some (.int .i64 s.scope) := c4
  clear c4 c1 hl hi HC
  generalize w.drew = w5 at *
  go_region_with (first
    | (go_at_call 37; refine (global_any HV.out n).mono ?_; rintro r w3 ⟨g, rfl, hV3, hf⟩; obtain ⟨q0, q1, q2, f0, f1, f2⟩ := cel_cells (hV3.cel (mem_def hf)); have e4 := hV3.scope_glob; have HI := hide (HIN.out w3 g hV3); clear hV3 hf)
    | (go_at_call 42; refine (Calls.mono HI.out) ?_; rintro r w4 ⟨gm, g2, rfl, hV4⟩; have HE := hide hV4; clear hV4))
  all_goals
    go_wp2
    go_ret
    refine ⟨rfl, g, gm, g2, ?_⟩
    have := HE.out
    rw [glob_locs] at this
    exact this
end
end Go.Proofs.Ytempnakdpmmmoaa
