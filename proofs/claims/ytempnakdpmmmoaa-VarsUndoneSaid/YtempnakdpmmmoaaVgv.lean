/- Variables: lists of words compared; acts that came in; words among a law's own blocks. No condition but those written. -/
import Derived.Test.YtempnakdpmmmoaaVgu
import Derived.Test.YtempnakdpmmmoaaVarDeep
namespace Go.Proofs.Ytempnakdpmmmoaa
open Go.RowKit
attribute [local go_sem] neq_cells eql_cells

theorem vac_len (a : Vac) : a.cells.length = 5 := rfl
theorem vac_one (a : Vac) : ∀ u ∈ a.cells, u.oneCell' = true := by
  intro u hu
  simp [Vac.cells] at hu
  rcases hu with rfl | rfl | rfl | rfl | rfl <;> rfl
set_option maxRecDepth 100000 in
set_option maxHeartbeats 4000000 in
theorem same_wrd (l : List (Int × Int)) (v1 v2 : Value) (w : World) (h1 : Rd w v1 2 l.length (rows wcel l)) (h2 : Rd w v2 2 l.length (rows wcel l)) (hl : l.length ≤ 2000000000) :
    Calls Try.prog 32 #[v1, v2] w fun e w' => e = .returned (.bool true) ∧ ∃ q, w' = w.drewN q := by
  obtain ⟨A1, c1, rfl, e1⟩ := id h1
  obtain ⟨A2, c2, rfl, e2⟩ := id h2
  clear e1 e2
  obtain ⟨n, hn⟩ : ∃ n, n = l.length := ⟨_, rfl⟩
  have hl2 : n ≤ 2000000000 := by omega
  have H1 := hide h1
  have H2 := hide h2
  rw [← hn]
  have HN := hide hn
  clear h1 h2 hl hn
  go_enter Try.func32, Try.ntmps32
  go_wp2
  go_loopw [5] (fun i wr => ∃ k q : Nat, k ≤ n ∧ i = .int .i64 (k : Int) ∧ wr = w.drewN q) (fun i _ => n - (intOf i).toNat)
  case atStart => exact ⟨0, 0, Nat.zero_le _, rfl, rfl⟩
  case round =>
    obtain ⟨k, q, hk, rfl, rfl⟩ := hrel
    by_cases hlt : k < n
    · have hz2 : decide ((k : Int) < (n : Int)) = true := by simp; omega
      have hlt2 : k < l.length := by have := HN.out; omega
      obtain ⟨x, hx⟩ : ∃ x, l[k]? = some x := ⟨_, List.getElem?_eq_getElem hlt2⟩
      obtain ⟨g1, o1, d1, hv1, hc1⟩ := Rd.fld wcel_len H1.out (by omega)
      obtain ⟨g2, o2, d2, hv2, hc2⟩ := Rd.fld wcel_len H2.out (by omega)
      rw [← HN.out] at hv1 hv2
      obtain ⟨rfl, rfl⟩ : A1 = some ⟨g1, o1, none⟩ ∧ c1 = d1 := by
        injection hv1 with e1 _ e2
        exact ⟨e1, e2⟩
      obtain ⟨rfl, rfl⟩ : A2 = some ⟨g2, o2, none⟩ ∧ c2 = d2 := by
        injection hv2 with e1 _ e2
        exact ⟨e1, e2⟩
      have p0 : w.cell? ⟨g1, o1 + k * 2, none⟩ = some (.int .i64 x.1) := hc1 k x 0 _ hx rfl
      have p1 : w.cell? ⟨g1, o1 + k * 2 + 1, none⟩ = some (.int .i64 x.2) := hc1 k x 1 _ hx rfl
      have q0 : w.cell? ⟨g2, o2 + k * 2, none⟩ = some (.int .i64 x.1) := hc2 k x 0 _ hx rfl
      have q1 : w.cell? ⟨g2, o2 + k * 2 + 1, none⟩ = some (.int .i64 x.2) := hc2 k x 1 _ hx rfl
      have HLT := hide hlt
      clear hx hc1 hc2 hv1 hv2 hk hlt2
      go_wp2
      go_region
      go_wp2
      go_roundw
      case rel => exact ⟨k + 1, q + 1, HLT.out, by go_num, rfl⟩
      case measure => have := HLT.out; simp [intOf]; omega
    · have hz2 : decide ((k : Int) < (n : Int)) = false := by simp; omega
      obtain rfl : k = n := by omega
      clear hk hlt
      go_wp2
      go_ret
      exact ⟨rfl, q, rfl⟩
theorem filt_len {α β : Type} (f : α → Option β) (l : List α) : (l.filterMap f).length ≤ l.length := List.length_filterMap_le ..
theorem vals_len (N M : Nat) (f : Nat → Option (Int × Int)) (g : Nat → Nat → Option (Int × Int)) (t : List (Int × Int)) (ht : t.length ≤ 2000) (hN : N = 16384) (hM : M = 65536) :
    (((List.range N).filterMap f) ++ ((List.range M).flatMap fun k => (List.range N).filterMap (g k)) ++ t).length ≤ 2000000000 := by
  have h1 := filt_len f (List.range N)
  have h2 := flat_len (f := fun k => (List.range N).filterMap (g k)) (N := N) (fun k => by
    have := filt_len (g k) (List.range N)
    rwa [List.length_range] at this) (List.range M)
  rw [List.length_range] at h1 h2
  rw [List.length_append, List.length_append]
  have h3 : M * N = 1073741824 := by rw [hM, hN]
  omega
theorem valsV_len {v : Vw} (ok : v.Ok) : (valsV v).length ≤ 2000000000 := by
  unfold valsV
  exact vals_len 16384 65536 _ _ _ (Nat.le_trans (filt_len _ _) ok.nl) rfl rfl
section
variable {W w w' : World} {vb : Nat} {v : Vw} {R : Heap}
/-- A word in a variable of the law's. -/
theorem VZ.boxW (h : VZ W w vb v R) (k n : Int) : VZ W (((w.alloc (.cells #[.int .i64 0, .int .i64 0] 29)).setCell ⟨w.heap.size, 0, none⟩ (.int .i64 k)).setCell ⟨w.heap.size, 1, none⟩ (.int .i64 n)) vb v ((w.heap.size, .cells 29 #[.int .i64 k, .int .i64 n]) :: R) := by
  obtain ⟨b, s, h1, h2, h3⟩ := (h.box 29 #[.int .i64 0, .int .i64 0]).at_
  have h4 := (h2.own.perm List.perm_middle).setCell 0 (.int .i64 k)
  have h5 := (h4.setCell 1 (.int .i64 n)).perm List.perm_middle.symm
  exact ⟨b, s, h1, h2.reR h5, h3⟩
/-- A row that came in is read wherever the law has come. -/
theorem rd_bel {W0 w : World} {u : Value} {k n : Nat} {xs : List Value} (h : Rd W0 u k n xs) (hb : Below W0.heap.size W0 w) : Rd w u k n xs := h.only (Only.of_below hb) fun _ _ f => f
theorem act_cells {W0 : World} {A : Option Addr} {n c : Nat} {l : List Vac} (hn : n = l.length) (h : Rd W0 (.slice A n c) 5 n (rows Vac.cells l)) {k : Nat} {a : Vac} (hk : l[k]? = some a) : ∃ g o, A = some ⟨g, o, none⟩ ∧ ∀ w, Below W0.heap.size W0 w → w.cell? ⟨g, o + k * 5, none⟩ = some (.int .i64 a.kd) ∧ w.cell? ⟨g, o + k * 5 + 1, none⟩ = some (.int .i64 a.n) ∧ w.cell? ⟨g, o + k * 5 + 2, none⟩ = some (.int .i64 a.k) ∧ w.cell? ⟨g, o + k * 5 + 3, none⟩ = some (.int .i64 a.wk) ∧ w.cell? ⟨g, o + k * 5 + 4, none⟩ = some (.int .i64 a.wn) := by
  subst hn
  have hlt := (List.getElem?_eq_some_iff.1 hk).1
  obtain ⟨g, o, d, hv, _⟩ := Rd.fld vac_len h (by omega)
  injection hv with e1 _ e2
  refine ⟨g, o, e1, fun w hb => ?_⟩
  subst e1
  obtain ⟨g', o', d', hv', hc⟩ := Rd.fld vac_len (rd_bel h hb) (by omega)
  injection hv' with e3 _ _
  injection e3 with e3
  injection e3 with e4 e5 _
  subst e4 e5
  exact ⟨hc k a 0 _ hk rfl, hc k a 1 _ hk rfl, hc k a 2 _ hk rfl, hc k a 3 _ hk rfl, hc k a 4 _ hk rfl⟩
theorem fresh_ok {s : Vst} (h : Fresh s 2) : s.Ok := by
  obtain ⟨h1, h2, h3, _, h5⟩ := h
  have e1 : s.defs.map (·.n) = [0, 1] := by
    have := congrArg (List.map Prod.fst) h5
    simpa [Function.comp_def] using this
  refine ⟨by rw [e1]; decide, fun e he => ?_, by rw [h1]; exact List.nodup_nil, fun x hx => (by rw [h1] at hx; cases hx), fun x hx => (by rw [h1] at hx; cases hx), (by rw [h3]; omega), fun x hx => (by rw [h2] at hx; cases hx), (by rw [h2]; exact Nat.zero_le _)⟩
  have : e.n ∈ s.defs.map (·.n) := List.mem_map.2 ⟨e, he, rfl⟩
  rw [e1] at this
  simp at this
  omega
theorem vz_new (W : World) : Calls Try.prog 9 #[] W fun r w' => ∃ vb v, r = .returned (.pointer (some ⟨vb, 0, none⟩)) ∧ VZ W w' vb v [] := by
  refine (new_any W).mono ?_
  rintro r w' ⟨b, s, rfl, h, hf⟩
  exact ⟨b.vb, s.view, rfl, b, s, rfl, h, fresh_ok hf, rfl⟩
end
end Go.Proofs.Ytempnakdpmmmoaa
