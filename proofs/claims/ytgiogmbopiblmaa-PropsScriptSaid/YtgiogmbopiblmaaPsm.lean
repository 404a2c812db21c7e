/- The reference's Cut. No condition but those written. -/
import Derived.Test.YtgiogmbopiblmaaPsl
namespace Go.Proofs.Ytgiogmbopiblmaa
open Go.RowKit

theorem sn_set0 : ∀ (S : List (Sn × Value)) (m : Nat) (s : Sn) (pv : Value) (z : Int), S[m]? = some (s, pv) → (rows snC S).set (m * 3) (.int .i64 z) = rows snC (S.set m (⟨z, s.hi, s.pr⟩, pv))
  | [], _, _, _, _, h => by simp at h
  | y :: S, 0, s, pv, z, h => by
      obtain rfl : y = (s, pv) := by simpa using h
      simp [rows, snC]
  | y :: S, m + 1, s, pv, z, h => by
      have ih := sn_set0 S m s pv z (by simpa using h)
      unfold rows at ih ⊢
      rw [List.set_cons_succ, List.flatMap_cons, List.flatMap_cons, ← ih, show (m + 1) * 3 = (m * 3) + 1 + 1 + 1 by omega]
      rfl
theorem OutS.setFrom {W w : World} {g off n c m : Nat} {S : List (Sn × Value)} {s : Sn} {pv : Value} (h : OutS W w (.slice (some ⟨g, off, none⟩) n c) S) (hn : n = S.length) (hx : S[m]? = some (s, pv)) (z : Int) : OutS W (w.setCell ⟨g, off + m * 3, none⟩ (.int .i64 z)) (.slice (some ⟨g, off, none⟩) n c) (S.set m (⟨z, s.hi, s.pr⟩, pv)) := by
  subst hn
  have hm := (List.getElem?_eq_some_iff.1 hx).1
  have hst : Only (fun i => (Value.slice (some ⟨g, off, none⟩) S.length c).ownBlock = some i) w (w.setCell ⟨g, off + m * 3, none⟩ (.int .i64 z)) := (Only.refl (fun i => (Value.slice (some ⟨g, off, none⟩) S.length c).ownBlock = some i) w).setCell (p := ⟨g, off + m * 3, none⟩) (.inl rfl) _
  have hs := h.inn.row.set (m * 3) (by rw [rows_len snC_len]; omega) (.int .i64 z)
  rw [sn_set0 S m s pv z hx] at hs
  refine ⟨h.bel.trans (hst.below h.bel.size fun i hi => h.own i hi), ⟨by rw [List.length_set]; exact hs, fun p hp => ?_⟩, h.own⟩
  rcases List.mem_or_eq_of_mem_set hp with hp | rfl
  · exact (h.inn.inn p hp).apartT h.inn.row (by decide) hst
  · exact PrS.apartT (h.inn.inn (s, pv) (List.mem_of_getElem? hx)) h.inn.row (by decide) hst
/-- Both ends of a span set. -/
theorem both_facts {W w : World} {g off n c m : Nat} {S : List (Sn × Value)} {s : Sn} {pv : Value} (h : OutS W w (.slice (some ⟨g, off, none⟩) n c) S) (hn : n = S.length) (hx : S[m]? = some (s, pv)) (y z : Int) :
    Hid (OutS W ((w.setCell ⟨g, off + m * 3, none⟩ (.int .i64 y)).setCell ⟨g, off + m * 3 + 1, none⟩ (.int .i64 z)) (.slice (some ⟨g, off, none⟩) n c) (S.set m (⟨y, z, s.pr⟩, pv))) ∧ w.cell? ⟨g, off + m * 3, none⟩ = some (.int .i64 s.lo) ∧ w.cell? ⟨g, off + m * 3 + 1, none⟩ = some (.int .i64 s.hi) ∧ w.frozen? ⟨g, off + m * 3, none⟩ = false ∧ (w.setCell ⟨g, off + m * 3, none⟩ (.int .i64 y)).cell? ⟨g, off + m * 3 + 1, none⟩ = some (.int .i64 s.hi) ∧ (w.setCell ⟨g, off + m * 3, none⟩ (.int .i64 y)).frozen? ⟨g, off + m * 3 + 1, none⟩ = false := by
  have hm := (List.getElem?_eq_some_iff.1 hx).1
  obtain ⟨g1, o1, e, k0, k1, _⟩ := h.inn.rd.at_ hn hx
  cases e
  have hrow := h.inn.row
  rw [← hn] at hrow
  obtain ⟨g2, o2, c2, e, _, _, _, hf, _⟩ := hrow.at_ (by omega)
  cases e
  have h1 := h.setFrom hn hx y
  have hx1 : (S.set m (⟨y, s.hi, s.pr⟩, pv))[m]? = some (⟨y, s.hi, s.pr⟩, pv) := by
    rw [List.getElem?_set_self hm]
  have hn1 : n = (S.set m ((⟨y, s.hi, s.pr⟩ : Sn), pv)).length := by rw [List.length_set]; exact hn
  obtain ⟨g1, o1, e, _, k2, _⟩ := h1.inn.rd.at_ hn1 hx1
  cases e
  have hrow1 := h1.inn.row
  rw [← hn1] at hrow1
  obtain ⟨g2, o2, c2, e, _, _, _, hf1, _⟩ := hrow1.at_ (by omega)
  cases e
  have h2 := h1.setTo hn1 hx1 z
  rw [List.set_set] at h2
  exact ⟨hide h2, k0, k1, hf _, k2, hf1 _⟩
/-- A span told from another place. -/
def mvS (a : Int) (s : Sn) : Sn := ⟨s.lo - a + 1, s.hi - a + 1, s.pr⟩
theorem mv_cut (P : List Pc) (a b : Int) : (spP P a b 0).map (mvS a) = cutS P a b := by
  unfold cutS spP
  split
  · rw [List.map_map]
    refine List.map_congr_left fun p _ => ?_
    simp only [Function.comp, mvS, Sn.mk.injEq, and_true]
    constructor <;> omega
  · rfl
theorem spP_small {P : List Pc} {N : Nat} (hg : Good P N) {a b : Int} : ∀ s ∈ spP P a b 0, 0 ≤ s.lo ∧ s.lo ≤ 65537 ∧ 0 ≤ s.hi ∧ s.hi ≤ 65537 ∧ 1 ≤ a ∧ a ≤ 65537 := by
  intro s hs
  unfold spP at hs
  split at hs
  · next hm =>
    obtain ⟨p, hp, rfl⟩ := List.mem_map.1 hs
    obtain ⟨g1, g2, g3, _⟩ := (hg.cut _ _).mem hp
    simp only []
    omega
  · cases hs
set_option maxRecDepth 100000 in
set_option maxHeartbeats 16000000 in
theorem rCut_any {w : World} {rb N : Nat} {v : Value} {R : List (List Pr × Value)} {P : List Pc} (h : RfAt w rb v R) (hl : Like (lsts R) P) (hg : Good P N) (hNB : N ≤ 1000) (a0 b0 : Int) :
    Calls Try.prog 38 #[.pointer (some ⟨rb, 0, none⟩), .int .i64 a0, .int .i64 b0] w (SpRes w (cutS P a0 b0)) := by
  have HSP := hide (rspans_any h hl hg hNB a0 b0)
  have HSM := hide (spP_small hg (a := a0) (b := b0))
  rw [← mv_cut]
  obtain ⟨T, hT⟩ : ∃ T, T = spP P a0 b0 0 := ⟨_, rfl⟩
  rw [← hT] at HSP HSM ⊢
  have HT9 := hide (show T.length ≤ 100000 by
    have := cut_len hg a0 b0 0
    rw [hT]
    omega)
  clear h hl hg hNB hT
  go_enter Try.func38, Try.ntmps38
  go_wp2_with fail
  refine (Calls.mono HSP.out) ?_
  rintro r w1 ⟨v1, S, rfl, h1, e1⟩
  have H1 := hide h1
  have E1 := hide e1
  obtain ⟨A, c, rfl, _⟩ := h1.inn.row.form
  obtain ⟨n, hn⟩ : ∃ n, n = S.length := ⟨_, rfl⟩
  have hnT : n = T.length := by rw [hn, ← e1]; simp [sns]
  have hn9 : (n : Int) ≤ 100000 := by have := HT9.out; omega
  rw [← hn] at H1 ⊢
  have HN := hide hn
  have HNT := hide hnT
  clear h1 e1 hn hnT HSP
  go_wp2_with fail
  go_loopw [8] (fun iv wr => ∃ (j : Nat) (S1 : List (Sn × Value)), iv = .int .i64 (j : Int) ∧ j ≤ n ∧ OutS w wr (.slice A n c) S1 ∧ S1.length = n ∧ sns S1 = (T.take j).map (mvS a0) ++ T.drop j) (fun iv _ => n - (intOf iv).toNat)
  case atStart => exact ⟨0, S, rfl, Nat.zero_le _, H1.out, HN.out.symm, by simp [E1.out]⟩
  case round =>
    obtain ⟨j, S1, rfl, hj, ho, hlen, hval⟩ := hrel
    have HO := hide ho
    have HLN := hide hlen
    have HVL := hide hval
    by_cases hlt : j < n
    · have z0 : decide (j < n) = true := by simpa using hlt
      have z1 : decide ((j : Int) < (n : Int)) = true := by simp; omega
      have z2 : (j : Int) < (n : Int) := by omega
      obtain ⟨⟨s, pv⟩, hx⟩ : ∃ y, S1[j]? = some y := ⟨_, List.getElem?_eq_getElem (by omega)⟩
      obtain ⟨g, off, rfl, p0, p1, _⟩ := ho.inn.rd.at_ hlen.symm hx
      have hst : T[j]? = some s := by
        have h2 : (sns S1)[j]? = some s := by unfold sns; rw [List.getElem?_map, hx]; rfl
        rw [hval, List.getElem?_append_right (by rw [List.length_map, List.length_take]; omega), List.length_map, List.length_take, List.getElem?_drop] at h2
        have := HNT.out
        rw [show j + (j - min j T.length) = j by omega] at h2
        exact h2
      obtain ⟨b1, b2, b3, b4, b5, b6⟩ := HSM.out s (List.mem_of_getElem? hst)
      have u1 : IntKind.i64.wrap (s.lo - a0) = s.lo - a0 := IntWalk.i64_in _ (by omega)
      have u2 : IntKind.i64.wrap (s.lo - a0 + 1) = s.lo - a0 + 1 := IntWalk.i64_in _ (by omega)
      have u3 : IntKind.i64.wrap (s.hi - a0) = s.hi - a0 := IntWalk.i64_in _ (by omega)
      have u4 : IntKind.i64.wrap (s.hi - a0 + 1) = s.hi - a0 + 1 := IntWalk.i64_in _ (by omega)
      have HX := hide hx
      have HLT := hide hlt
      have HST := hide hst
      have HP0 := hide p0
      have HP1 := hide p1
      clear ho hlen hval hx hlt hst hj b1 b2 b3 b4 b5 b6
      go_upto_region 5 with fail
      have HB2 := hide ((Below.refl wr.heap.size wr).drew)
      refine wp_region_d (S := fun y => (y.cell? ⟨g, off + j * 3, none⟩ = some (.int .i64 s.lo) ∧ y.cell? ⟨g, off + j * 3 + 1, none⟩ = some (.int .i64 s.hi))) (D := [22, 25]) (by kernel_rfl) ?_
      change wpAnyD _ _ _ _ _ _ _ _ _ wr.drew
      obtain ⟨w2, hw2⟩ : ∃ y : World, y = wr.drew := ⟨_, rfl⟩
      rw [← hw2] at HB2 ⊢
      clear hw2
      have hS : w2.cell? ⟨g, off + j * 3, none⟩ = some (.int .i64 s.lo) ∧ w2.cell? ⟨g, off + j * 3 + 1, none⟩ = some (.int .i64 s.hi) := ⟨cell_keep HP0.out HB2.out, cell_keep HP1.out HB2.out⟩
      have HO2 := hide (HO.out.below HB2.out)
      clear p0 p1
      refine wpAnyD_takeW (i := 0) (oi := { dst := some 19, op := Op.move (Operand.tmp 7), type := 34, pos := "ref.go:193", after := #[], guard := none }) (v := ?_) rfl (by kernel_rfl) (by kernel_rfl) (by kernel_rfl) (fun _ _ _ h => h) (Or.inl ⟨by rfl, ?_⟩) ?_
      rotate_left
      · intro w hSw
        clear hSw
        go_simp
        all_goals with_reducible rfl
      simp only [Act.put, List.setIfInBounds_toArray, List.set_cons_zero, List.set_cons_succ]
      refine wpAnyD_takeW (i := 1) (oi := { dst := some 20, op := Op.move (Operand.tmp 8), type := 3, pos := "ref.go:193", after := #[], guard := none }) (v := ?_) rfl (by kernel_rfl) (by kernel_rfl) (by kernel_rfl) (fun _ _ _ h => h) (Or.inl ⟨by rfl, ?_⟩) ?_
      rotate_left
      · intro w hSw
        clear hSw
        go_simp
        all_goals with_reducible rfl
      simp only [Act.put, List.setIfInBounds_toArray, List.set_cons_zero, List.set_cons_succ]
      refine wpAnyD_takeW (i := 2) (oi := { dst := some 21, op := Op.move (Operand.tmp 7), type := 34, pos := "ref.go:193", after := #[{ on := 22, ground := Ground.gcOnly Departure.lateStores }], guard := none }) (v := ?_) rfl (by kernel_rfl) (by kernel_rfl) (by kernel_rfl) (fun _ _ _ h => h) (Or.inl ⟨by rfl, ?_⟩) ?_
      rotate_left
      · intro w hSw
        clear hSw
        go_simp
        all_goals with_reducible rfl
      simp only [Act.put, List.setIfInBounds_toArray, List.set_cons_zero, List.set_cons_succ]
      refine wpAnyD_takeW (i := 3) (oi := { dst := some 22, op := Op.move (Operand.tmp 8), type := 3, pos := "ref.go:193", after := #[{ on := 22, ground := Ground.gcOnly Departure.lateStores }], guard := none }) (v := ?_) rfl (by kernel_rfl) (by kernel_rfl) (by kernel_rfl) (fun _ _ _ h => h) (Or.inl ⟨by rfl, ?_⟩) ?_
      rotate_left
      · intro w hSw
        clear hSw
        go_simp
        all_goals with_reducible rfl
      simp only [Act.put, List.setIfInBounds_toArray, List.set_cons_zero, List.set_cons_succ]
      refine wpAnyD_takeW (i := 4) (oi := { dst := some 23, op := Op.move (Operand.tmp 7), type := 34, pos := "ref.go:193", after := #[], guard := none }) (v := ?_) rfl (by kernel_rfl) (by kernel_rfl) (by kernel_rfl) (fun _ _ _ h => h) (Or.inl ⟨by rfl, ?_⟩) ?_
      rotate_left
      · intro w hSw
        clear hSw
        go_simp
        all_goals with_reducible rfl
      simp only [Act.put, List.setIfInBounds_toArray, List.set_cons_zero, List.set_cons_succ]
      refine wpAnyD_takeW (i := 5) (oi := { dst := some 24, op := Op.move (Operand.tmp 8), type := 3, pos := "ref.go:193", after := #[], guard := none }) (v := ?_) rfl (by kernel_rfl) (by kernel_rfl) (by kernel_rfl) (fun _ _ _ h => h) (Or.inl ⟨by rfl, ?_⟩) ?_
      rotate_left
      · intro w hSw
        clear hSw
        go_simp
        all_goals with_reducible rfl
      simp only [Act.put, List.setIfInBounds_toArray, List.set_cons_zero, List.set_cons_succ]
      refine wpAnyD_takeW (i := 6) (oi := { dst := some 25, op := Op.indexAddr 34 (Operand.tmp 23) (Operand.tmp 24), type := 0, pos := "ref.go:193", after := #[{ on := 4, ground := Ground.data }, { on := 5, ground := Ground.data }], guard := none }) (v := ?_) rfl (by kernel_rfl) (by kernel_rfl) (by kernel_rfl) (fun _ _ _ h => h) (Or.inl ⟨by rfl, ?_⟩) ?_
      rotate_left
      · intro w hSw
        clear hSw
        go_simp
        all_goals with_reducible rfl
      simp only [Act.put, List.setIfInBounds_toArray, List.set_cons_zero, List.set_cons_succ]
      refine wpAnyD_takeW (i := 7) (oi := { dst := some 26, op := Op.fieldAddr 38 (Operand.tmp 25) 0, type := 0, pos := "ref.go:193", after := #[{ on := 6, ground := Ground.data }], guard := none }) (v := ?_) rfl (by kernel_rfl) (by kernel_rfl) (by kernel_rfl) (fun _ _ _ h => h) (Or.inl ⟨by rfl, ?_⟩) ?_
      rotate_left
      · intro w hSw
        clear hSw
        go_simp
        all_goals with_reducible rfl
      simp only [Act.put, List.setIfInBounds_toArray, List.set_cons_zero, List.set_cons_succ]
      refine wpAnyD_take (i := 8) (oi := { dst := some 27, op := Op.load 3 (Operand.tmp 26), type := 3, pos := "ref.go:193", after := #[{ on := 7, ground := Ground.data }], guard := none }) (v := ?_) rfl (by kernel_rfl) (by kernel_rfl) (by kernel_rfl) (by kernel_rfl) (by kernel_rfl) (fun _ _ _ h => h) (Or.inl ⟨by rfl, ?_⟩) hS ?_
      rotate_left
      · intro w hSw
        obtain ⟨s0, s1⟩ := hSw
        go_simp
        all_goals with_reducible rfl
      simp only [Act.put, List.setIfInBounds_toArray, List.set_cons_zero, List.set_cons_succ]
      refine wpAnyD_takeW (i := 9) (oi := { dst := some 28, op := Op.move (Operand.tmp 1), type := 3, pos := "ref.go:193", after := #[], guard := none }) (v := ?_) rfl (by kernel_rfl) (by kernel_rfl) (by kernel_rfl) (fun _ _ _ h => h) (Or.inl ⟨by rfl, ?_⟩) ?_
      rotate_left
      · intro w hSw
        clear hSw
        go_simp
        all_goals with_reducible rfl
      simp only [Act.put, List.setIfInBounds_toArray, List.set_cons_zero, List.set_cons_succ]
      refine wpAnyD_takeW (i := 10) (oi := { dst := some 29, op := Op.binOp BinOp.sub 3 (Operand.tmp 27) (Operand.tmp 28) 3, type := 3, pos := "ref.go:193", after := #[{ on := 8, ground := Ground.data }, { on := 9, ground := Ground.data }], guard := none }) (v := ?_) rfl (by kernel_rfl) (by kernel_rfl) (by kernel_rfl) (fun _ _ _ h => h) (Or.inl ⟨by rfl, ?_⟩) ?_
      rotate_left
      · intro w hSw
        clear hSw
        go_simp
        all_goals with_reducible rfl
      simp only [Act.put, List.setIfInBounds_toArray, List.set_cons_zero, List.set_cons_succ]
      refine wpAnyD_takeW (i := 11) (oi := { dst := some 30, op := Op.binOp BinOp.add 3 (Operand.tmp 29) (Operand.const (Value.int IntKind.i64 1)) 3, type := 3, pos := "ref.go:193", after := #[{ on := 10, ground := Ground.data }], guard := none }) (v := ?_) rfl (by kernel_rfl) (by kernel_rfl) (by kernel_rfl) (fun _ _ _ h => h) (Or.inl ⟨by rfl, ?_⟩) ?_
      rotate_left
      · intro w hSw
        clear hSw
        go_simp
        all_goals with_reducible rfl
      simp only [Act.put, List.setIfInBounds_toArray, List.set_cons_zero, List.set_cons_succ]
      refine wpAnyD_takeW (i := 12) (oi := { dst := some 31, op := Op.move (Operand.tmp 7), type := 34, pos := "ref.go:193", after := #[], guard := none }) (v := ?_) rfl (by kernel_rfl) (by kernel_rfl) (by kernel_rfl) (fun _ _ _ h => h) (Or.inl ⟨by rfl, ?_⟩) ?_
      rotate_left
      · intro w hSw
        clear hSw
        go_simp
        all_goals with_reducible rfl
      simp only [Act.put, List.setIfInBounds_toArray, List.set_cons_zero, List.set_cons_succ]
      refine wpAnyD_takeW (i := 13) (oi := { dst := some 32, op := Op.move (Operand.tmp 8), type := 3, pos := "ref.go:193", after := #[], guard := none }) (v := ?_) rfl (by kernel_rfl) (by kernel_rfl) (by kernel_rfl) (fun _ _ _ h => h) (Or.inl ⟨by rfl, ?_⟩) ?_
      rotate_left
      · intro w hSw
        clear hSw
        go_simp
        all_goals with_reducible rfl
      simp only [Act.put, List.setIfInBounds_toArray, List.set_cons_zero, List.set_cons_succ]
      refine wpAnyD_takeW (i := 14) (oi := { dst := some 33, op := Op.indexAddr 34 (Operand.tmp 31) (Operand.tmp 32), type := 0, pos := "ref.go:193", after := #[{ on := 12, ground := Ground.data }, { on := 13, ground := Ground.data }], guard := none }) (v := ?_) rfl (by kernel_rfl) (by kernel_rfl) (by kernel_rfl) (fun _ _ _ h => h) (Or.inl ⟨by rfl, ?_⟩) ?_
      rotate_left
      · intro w hSw
        clear hSw
        go_simp
        all_goals with_reducible rfl
      simp only [Act.put, List.setIfInBounds_toArray, List.set_cons_zero, List.set_cons_succ]
      refine wpAnyD_takeW (i := 15) (oi := { dst := some 34, op := Op.fieldAddr 38 (Operand.tmp 33) 1, type := 0, pos := "ref.go:193", after := #[{ on := 14, ground := Ground.data }], guard := none }) (v := ?_) rfl (by kernel_rfl) (by kernel_rfl) (by kernel_rfl) (fun _ _ _ h => h) (Or.inl ⟨by rfl, ?_⟩) ?_
      rotate_left
      · intro w hSw
        clear hSw
        go_simp
        all_goals with_reducible rfl
      simp only [Act.put, List.setIfInBounds_toArray, List.set_cons_zero, List.set_cons_succ]
      refine wpAnyD_take (i := 16) (oi := { dst := some 35, op := Op.load 3 (Operand.tmp 34), type := 3, pos := "ref.go:193", after := #[{ on := 15, ground := Ground.data }], guard := none }) (v := ?_) rfl (by kernel_rfl) (by kernel_rfl) (by kernel_rfl) (by kernel_rfl) (by kernel_rfl) (fun _ _ _ h => h) (Or.inl ⟨by rfl, ?_⟩) hS ?_
      rotate_left
      · intro w hSw
        obtain ⟨s0, s1⟩ := hSw
        go_simp
        all_goals with_reducible rfl
      simp only [Act.put, List.setIfInBounds_toArray, List.set_cons_zero, List.set_cons_succ]
      refine wpAnyD_takeW (i := 17) (oi := { dst := some 36, op := Op.move (Operand.tmp 1), type := 3, pos := "ref.go:193", after := #[], guard := none }) (v := ?_) rfl (by kernel_rfl) (by kernel_rfl) (by kernel_rfl) (fun _ _ _ h => h) (Or.inl ⟨by rfl, ?_⟩) ?_
      rotate_left
      · intro w hSw
        clear hSw
        go_simp
        all_goals with_reducible rfl
      simp only [Act.put, List.setIfInBounds_toArray, List.set_cons_zero, List.set_cons_succ]
      refine wpAnyD_takeW (i := 18) (oi := { dst := some 37, op := Op.binOp BinOp.sub 3 (Operand.tmp 35) (Operand.tmp 36) 3, type := 3, pos := "ref.go:193", after := #[{ on := 16, ground := Ground.data }, { on := 17, ground := Ground.data }], guard := none }) (v := ?_) rfl (by kernel_rfl) (by kernel_rfl) (by kernel_rfl) (fun _ _ _ h => h) (Or.inl ⟨by rfl, ?_⟩) ?_
      rotate_left
      · intro w hSw
        clear hSw
        go_simp
        all_goals with_reducible rfl
      simp only [Act.put, List.setIfInBounds_toArray, List.set_cons_zero, List.set_cons_succ]
      refine wpAnyD_takeW (i := 19) (oi := { dst := some 38, op := Op.binOp BinOp.add 3 (Operand.tmp 37) (Operand.const (Value.int IntKind.i64 1)) 3, type := 3, pos := "ref.go:193", after := #[{ on := 18, ground := Ground.data }], guard := none }) (v := ?_) rfl (by kernel_rfl) (by kernel_rfl) (by kernel_rfl) (fun _ _ _ h => h) (Or.inl ⟨by rfl, ?_⟩) ?_
      rotate_left
      · intro w hSw
        clear hSw
        go_simp
        all_goals with_reducible rfl
      simp only [Act.put, List.setIfInBounds_toArray, List.set_cons_zero, List.set_cons_succ]
      refine wpAnyD_takeW (i := 20) (oi := { dst := some 39, op := Op.indexAddr 34 (Operand.tmp 19) (Operand.tmp 20), type := 0, pos := "ref.go:193", after := #[{ on := 0, ground := Ground.data }, { on := 1, ground := Ground.data }, { on := 0, ground := Ground.phase }, { on := 1, ground := Ground.phase }, { on := 2, ground := Ground.textOnly Departure.lateStores }, { on := 3, ground := Ground.textOnly Departure.lateStores }, { on := 4, ground := Ground.phase }, { on := 5, ground := Ground.phase }, { on := 6, ground := Ground.phase }, { on := 7, ground := Ground.phase }, { on := 8, ground := Ground.phase }, { on := 9, ground := Ground.phase }, { on := 10, ground := Ground.phase }, { on := 11, ground := Ground.phase }, { on := 12, ground := Ground.textOnly Departure.lateStores }, { on := 13, ground := Ground.textOnly Departure.lateStores }, { on := 14, ground := Ground.textOnly Departure.lateStoresUnsure }, { on := 15, ground := Ground.textOnly Departure.lateStoresUnsure }, { on := 16, ground := Ground.phase }, { on := 17, ground := Ground.textOnly Departure.lateStores }, { on := 18, ground := Ground.textOnly Departure.lateStoresUnsure }, { on := 19, ground := Ground.textOnly Departure.lateStoresUnsure }], guard := none }) (v := ?_) rfl (by kernel_rfl) (by kernel_rfl) (by kernel_rfl) (fun _ _ _ h => h) (Or.inl ⟨by rfl, ?_⟩) ?_
      rotate_left
      · intro w hSw
        clear hSw
        go_simp
        all_goals with_reducible rfl
      simp only [Act.put, List.setIfInBounds_toArray, List.set_cons_zero, List.set_cons_succ]
      refine wpAnyD_takeW (i := 21) (oi := { dst := some 40, op := Op.fieldAddr 38 (Operand.tmp 39) 0, type := 0, pos := "ref.go:193", after := #[{ on := 20, ground := Ground.data }, { on := 0, ground := Ground.phase }, { on := 1, ground := Ground.phase }, { on := 2, ground := Ground.textOnly Departure.lateStores }, { on := 3, ground := Ground.textOnly Departure.lateStores }, { on := 4, ground := Ground.phase }, { on := 5, ground := Ground.phase }, { on := 6, ground := Ground.phase }, { on := 7, ground := Ground.phase }, { on := 8, ground := Ground.phase }, { on := 9, ground := Ground.phase }, { on := 10, ground := Ground.phase }, { on := 11, ground := Ground.phase }, { on := 12, ground := Ground.textOnly Departure.lateStores }, { on := 13, ground := Ground.textOnly Departure.lateStores }, { on := 14, ground := Ground.textOnly Departure.lateStoresUnsure }, { on := 15, ground := Ground.textOnly Departure.lateStoresUnsure }, { on := 16, ground := Ground.phase }, { on := 17, ground := Ground.textOnly Departure.lateStores }, { on := 18, ground := Ground.textOnly Departure.lateStoresUnsure }, { on := 19, ground := Ground.textOnly Departure.lateStoresUnsure }], guard := none }) (v := ?_) rfl (by kernel_rfl) (by kernel_rfl) (by kernel_rfl) (fun _ _ _ h => h) (Or.inl ⟨by rfl, ?_⟩) ?_
      rotate_left
      · intro w hSw
        clear hSw
        go_simp
        all_goals with_reducible rfl
      simp only [Act.put, List.setIfInBounds_toArray, List.set_cons_zero, List.set_cons_succ]
      obtain ⟨HB, r0, _, r1, r2, r3⟩ := both_facts HO2.out HLN.out.symm HX.out (s.lo - a0 + 1) (s.hi - a0 + 1)
      clear hS
      refine wpAnyD_one (i := 22) (o := { dst := none, op := Op.store 3 (Operand.tmp 40) (Operand.tmp 30), type := 0, pos := "ref.go:193", after := #[{ on := 21, ground := Ground.data }, { on := 11, ground := Ground.data }, { on := 0, ground := Ground.phase }, { on := 1, ground := Ground.phase }, { on := 2, ground := Ground.textOnly Departure.lateStores }, { on := 3, ground := Ground.textOnly Departure.lateStores }, { on := 4, ground := Ground.phase }, { on := 5, ground := Ground.phase }, { on := 6, ground := Ground.phase }, { on := 7, ground := Ground.phase }, { on := 8, ground := Ground.phase }, { on := 9, ground := Ground.phase }, { on := 10, ground := Ground.phase }, { on := 11, ground := Ground.phase }, { on := 12, ground := Ground.textOnly Departure.lateStores }, { on := 13, ground := Ground.textOnly Departure.lateStores }, { on := 14, ground := Ground.textOnly Departure.lateStoresUnsure }, { on := 15, ground := Ground.textOnly Departure.lateStoresUnsure }, { on := 16, ground := Ground.phase }, { on := 17, ground := Ground.textOnly Departure.lateStores }, { on := 18, ground := Ground.textOnly Departure.lateStoresUnsure }, { on := 19, ground := Ground.textOnly Departure.lateStoresUnsure }], guard := none }) (by kernel_rfl) rfl (fun K hK => ?_)
      go_simp
      refine hK _ _ (fun h => by cases h) ?_
      clear hK K
      try simp only [Act.put, List.setIfInBounds_toArray, List.set_cons_zero, List.set_cons_succ]
      refine wpAnyD_takeW (i := 23) (oi := { dst := some 41, op := Op.indexAddr 34 (Operand.tmp 21) (Operand.tmp 22), type := 0, pos := "ref.go:193", after := #[{ on := 2, ground := Ground.data }, { on := 3, ground := Ground.data }, { on := 0, ground := Ground.phase }, { on := 1, ground := Ground.phase }, { on := 2, ground := Ground.phase }, { on := 3, ground := Ground.phase }, { on := 4, ground := Ground.phase }, { on := 5, ground := Ground.phase }, { on := 6, ground := Ground.phase }, { on := 7, ground := Ground.phase }, { on := 8, ground := Ground.phase }, { on := 9, ground := Ground.phase }, { on := 10, ground := Ground.phase }, { on := 11, ground := Ground.phase }, { on := 12, ground := Ground.phase }, { on := 13, ground := Ground.phase }, { on := 14, ground := Ground.phase }, { on := 15, ground := Ground.phase }, { on := 16, ground := Ground.phase }, { on := 17, ground := Ground.phase }, { on := 18, ground := Ground.phase }, { on := 19, ground := Ground.phase }, { on := 20, ground := Ground.phase }, { on := 21, ground := Ground.phase }, { on := 22, ground := Ground.phase }], guard := none }) (v := ?_) rfl (by kernel_rfl) (by kernel_rfl) (by kernel_rfl) (fun _ _ _ h => h) (Or.inl ⟨by rfl, ?_⟩) ?_
      rotate_left
      · intro w hSw
        clear hSw
        go_simp
        all_goals with_reducible rfl
      simp only [Act.put, List.setIfInBounds_toArray, List.set_cons_zero, List.set_cons_succ]
      refine wpAnyD_takeW (i := 24) (oi := { dst := some 42, op := Op.fieldAddr 38 (Operand.tmp 41) 1, type := 0, pos := "ref.go:193", after := #[{ on := 23, ground := Ground.data }, { on := 0, ground := Ground.phase }, { on := 1, ground := Ground.phase }, { on := 2, ground := Ground.phase }, { on := 3, ground := Ground.phase }, { on := 4, ground := Ground.phase }, { on := 5, ground := Ground.phase }, { on := 6, ground := Ground.phase }, { on := 7, ground := Ground.phase }, { on := 8, ground := Ground.phase }, { on := 9, ground := Ground.phase }, { on := 10, ground := Ground.phase }, { on := 11, ground := Ground.phase }, { on := 12, ground := Ground.phase }, { on := 13, ground := Ground.phase }, { on := 14, ground := Ground.phase }, { on := 15, ground := Ground.phase }, { on := 16, ground := Ground.phase }, { on := 17, ground := Ground.phase }, { on := 18, ground := Ground.phase }, { on := 19, ground := Ground.phase }, { on := 20, ground := Ground.phase }, { on := 21, ground := Ground.phase }, { on := 22, ground := Ground.phase }], guard := none }) (v := ?_) rfl (by kernel_rfl) (by kernel_rfl) (by kernel_rfl) (fun _ _ _ h => h) (Or.inl ⟨by rfl, ?_⟩) ?_
      rotate_left
      · intro w hSw
        clear hSw
        go_simp
        all_goals with_reducible rfl
      simp only [Act.put, List.setIfInBounds_toArray, List.set_cons_zero, List.set_cons_succ]
      refine wpAnyD_one (i := 25) (o := { dst := none, op := Op.store 3 (Operand.tmp 42) (Operand.tmp 38), type := 0, pos := "ref.go:193", after := #[{ on := 24, ground := Ground.data }, { on := 19, ground := Ground.data }, { on := 22, ground := Ground.chain }, { on := 0, ground := Ground.phase }, { on := 1, ground := Ground.phase }, { on := 2, ground := Ground.phase }, { on := 3, ground := Ground.phase }, { on := 4, ground := Ground.phase }, { on := 5, ground := Ground.phase }, { on := 6, ground := Ground.phase }, { on := 7, ground := Ground.phase }, { on := 8, ground := Ground.phase }, { on := 9, ground := Ground.phase }, { on := 10, ground := Ground.phase }, { on := 11, ground := Ground.phase }, { on := 12, ground := Ground.phase }, { on := 13, ground := Ground.phase }, { on := 14, ground := Ground.phase }, { on := 15, ground := Ground.phase }, { on := 16, ground := Ground.phase }, { on := 17, ground := Ground.phase }, { on := 18, ground := Ground.phase }, { on := 19, ground := Ground.phase }, { on := 20, ground := Ground.phase }, { on := 21, ground := Ground.phase }, { on := 22, ground := Ground.phase }], guard := none }) (by kernel_rfl) rfl (fun K hK => ?_)
      go_simp
      refine hK _ _ (fun h => by cases h) ?_
      clear hK K
      try simp only [Act.put, List.setIfInBounds_toArray, List.set_cons_zero, List.set_cons_succ]
      refine wpAnyD_done (by kernel_rfl) ?_ _
      go_wp2
      go_roundw
      case rel =>
        refine ⟨j + 1, _, by go_num, HLT.out, HB.out, by rw [List.length_set]; exact HLN.out, ?_⟩
        have e : sns (S1.set j (mvS a0 s, pv)) = (sns S1).set j (mvS a0 s) := by unfold sns; rw [List.map_set]
        show sns (S1.set j (mvS a0 s, pv)) = _
        rw [e, HVL.out]
        have hjT : j < T.length := by have := HNT.out; have := HLT.out; omega
        have hl1 : ((T.take j).map (mvS a0)).length = j := by rw [List.length_map, List.length_take]; omega
        rw [List.set_append, if_neg (by omega), hl1, Nat.sub_self, List.take_add_one, HST.out, List.drop_eq_getElem_cons hjT, List.set_cons_zero, List.map_append, Option.toList_some, List.map_cons, List.map_nil, List.append_assoc, List.cons_append, List.nil_append]
      case measure => have := HLT.out; simp [intOf]; omega
    · have z0 : decide (j < n) = false := by simpa using hlt
      have z1 : decide ((j : Int) < (n : Int)) = false := by simp; omega
      have z2 : ¬ (j : Int) < (n : Int) := by omega
      have HE := hide (show sns S1 = T.map (mvS a0) by
        have := HNT.out
        rw [hval, List.take_of_length_le (by omega), List.drop_eq_nil_of_le (by omega), List.append_nil])
      clear ho hlen hval hlt hj
      go_wp2
      go_ret
      exact ⟨_, S1, rfl, HO.out, HE.out⟩
end Go.Proofs.Ytgiogmbopiblmaa
namespace Go.Proofs.Ytgiogmbopiblmaa
open Go.RowKit

section
variable {W w : World} {rb : Nat} {L : List (List Pr)} {P : List Pc} {N D : Nat}
set_option maxRecDepth 100000 in
set_option maxHeartbeats 16000000 in
theorem rPaste_any (h : ROb W w rb L) (hl : Like L P) (hg : Good P N) (vS : Value) (S : List (Sn × Value)) (hs : SnRd w vS S) (a0 : Int) (hcov : ∀ x, cov a0 (sns S) x ≤ D) (hND : N + D ≤ 900) (hSl : S.length ≤ 1000000) (hSp : ∀ s ∈ S, s.1.pr.length ≤ 1000000) :
    Calls Try.prog 68 #[.pointer (some ⟨rb, 0, none⟩), .int .i64 a0, vS] w (RRes W w rb (pasteQ P a0 (sns S)) (.int .i64 (pasteE P a0 (sns S)))) := by
  have HSAME := hide (fun (y : World) (hb : Below w.heap.size w y) => RRes.same h hl hb)
  obtain ⟨v0, R0, hr0, hrl0, hg0⟩ := h.ex
  have HCP := hide (rcopy_any hr0)
  have HR0 := hide hr0
  have HRL0 := hide hrl0
  obtain ⟨A, c, rfl, _⟩ := hr0.inn.row.form
  obtain ⟨AS, cS, rfl, _⟩ := id hs.row
  have H := hide h
  have HL := hide hl
  have HRD := hide hs
  have HG0 := hide hg.goodF
  have HCV := hide hcov
  have HND := hide hND
  have HSP := hide hSp
  obtain ⟨nn, hnn⟩ : ∃ nn, nn = S.length := ⟨_, rfl⟩
  rw [← hnn] at HRD ⊢
  have hl2 : (nn : Int) ≤ 1000000 := by omega
  have HNN := hide hnn
  by_cases ha : a0 < 1 ∨ 65537 < a0
  · obtain ⟨e1, e2⟩ := pasteR_far (P := P) (S := sns S) ha
    rw [e1, e2]
    clear h hl hg hs hcov hND hSp hnn e1 e2 hSl hr0 hrl0 hg0
    rcases ha with ha | ha
    · have z1 : decide (a0 < 1) = true := by simpa using ha
      clear ha
      go_enter Try.func68, Try.ntmps68
      go_wp2_with fail
      go_ret
      exact ⟨rfl, HSAME.out _ (Below.refl _ _)⟩
    · have z1 : decide (a0 < 1) = false := by simp; omega
      have z2 : decide (65537 < a0) = true := by simpa using ha
      have z3 : ¬ a0 < 1 := by omega
      clear ha
      go_enter Try.func68, Try.ntmps68
      go_wp2_with fail
      go_ret
      exact ⟨rfl, HSAME.out _ (Below.refl _ _)⟩
  have z1 : decide (a0 < 1) = false := by simp; omega
  have z2 : decide (65537 < a0) = false := by simp; omega
  have z3 : ¬ a0 < 1 := by omega
  have z4 : ¬ 65537 < a0 := by omega
  have hab : 1 ≤ a0 ∧ a0 ≤ 65537 := by omega
  have HAB := hide hab
  have HA := hide ha
  clear h hl hg hs hcov hND hSp hnn hSl ha hab hr0 hrl0 hg0
  go_enter Try.func68, Try.ntmps68
  go_wp2_with fail
  refine (Calls.mono HCP.out) ?_
  rintro r w2 ⟨rb2, v2, R2, rfl, h2, e2, g2, o2, b2⟩
  have HO2 := hide (show ROb w w2 rb2 L from by
    have := ROb.of_copy h2 g2 o2 b2 rfl
    rw [e2, HRL0.out] at this
    exact this)
  clear h2 e2 g2 o2 b2 HCP
  go_wp2_with fail
  go_loopw [8] (fun iv wr => ∃ (k : Nat) (L1 : List (List Pr)) (P1 : List Pc), k ≤ nn ∧ iv = .int .i64 (k : Int) ∧ ROb w wr rb2 L1 ∧ Like L1 P1 ∧ Left2 a0 (sns S) P k P1 ∧ GoodF P1 (fun x => N + cov a0 ((sns S).take k) x)) (fun iv _ => nn - (intOf iv).toNat)
  case atStart => exact ⟨0, L, P, Nat.zero_le _, rfl, HO2.out, HL.out, rfl, HG0.out.mono fun x => Nat.le_add_right _ _⟩
  case round =>
    obtain ⟨k, L1, P1, hk, rfl, hst, hlk, hlf, hgf⟩ := hrel
    have HLF := hide hlf
    have HGF := hide hgf
    have HST := hide hst
    have HLK := hide hlk
    by_cases hlt : k < nn
    · have y1 : decide (k < nn) = true := by simpa using hlt
      have y2 : decide ((k : Int) < (nn : Int)) = true := by simp; omega
      have y3 : (k : Int) < (nn : Int) := by omega
      obtain ⟨⟨⟨lo, hi, q⟩, pv⟩, hp⟩ : ∃ p, S[k]? = some p := ⟨_, List.getElem?_eq_getElem (by rw [← HNN.out]; exact hlt)⟩
      have hpp : (sns S)[k]? = some ⟨lo, hi, q⟩ := by unfold sns; rw [List.getElem?_map, hp]; rfl
      have hrd := HRD.out.below hst.bel
      have hqr : Rd w pv 3 q.length (rows prC q) := HRD.out.inn (⟨lo, hi, q⟩, pv) (List.mem_of_getElem? hp)
      have hql : q.length ≤ 1000000 := HSP.out _ (List.mem_of_getElem? hp)
      obtain ⟨g, off, e1, p0, p1, p2⟩ := hrd.at_ HNN.out hp
      subst e1
      obtain ⟨Ap, cp, rfl, _⟩ := id hqr
      have HQR := hide hqr
      have HPP := hide hpp
      have HLT := hide hlt
      have HBX := hide (below_box wr (.cells #[.int .i64 lo, .int .i64 hi, .slice Ap q.length cp] 38))
      have HBK := hide (Blk.new wr 38 #[.int .i64 lo, .int .i64 hi, .slice Ap q.length cp])
      have HST2 := hide (hst.below HBX.out)
      have b0 := HBK.out.cell 0
      have b1 := HBK.out.cell 1
      have b2 := HBK.out.cell 2
      clear hst hlf hgf hlk hrd hqr hp hpp hlt hk
      have HM1 := hide (fun (w2 : World) => rmay_any lo hi w2)
      by_cases m1 : mayP lo hi
      · have hm1 : decide (mayP lo hi) = true := decide_eq_true m1
        rw [hm1] at HM1
        have hm1' : 1 ≤ lo ∧ lo ≤ hi ∧ hi ≤ 65537 := m1
        obtain ⟨n1, n2, n3⟩ := hm1'
        obtain ⟨h1, h2⟩ := HAB.out
        have w1 : IntKind.i64.wrap (a0 + lo) = a0 + lo := IntWalk.i64_in _ (by omega)
        have w2' : IntKind.i64.wrap (a0 + lo - 1) = a0 + lo - 1 := IntWalk.i64_in _ (by omega)
        have w3' : IntKind.i64.wrap (a0 + hi) = a0 + hi := IntWalk.i64_in _ (by omega)
        have w4' : IntKind.i64.wrap (a0 + hi - 1) = a0 + hi - 1 := IntWalk.i64_in _ (by omega)
        have HM2 := hide (fun (w2 : World) => rmay_any (a0 + lo - 1) (a0 + hi - 1) w2)
        by_cases m2 : mayP (a0 + lo - 1) (a0 + hi - 1)
        · have hm2 : decide (mayP (a0 + lo - 1) (a0 + hi - 1)) = true := decide_eq_true m2
          rw [hm2] at HM2
          have HMM := hide (And.intro m1 m2)
          have hm2' : 1 ≤ a0 + lo - 1 ∧ a0 + lo - 1 ≤ a0 + hi - 1 ∧ a0 + hi - 1 ≤ 65537 := m2
          obtain ⟨a, hae⟩ : ∃ a : Nat, (a : Int) = a0 + lo - 1 := ⟨(a0 + lo - 1).toNat, by omega⟩
          obtain ⟨d, hde⟩ : ∃ a : Nat, (a : Int) = a0 + hi - 1 := ⟨(a0 + hi - 1).toNat, by omega⟩
          have w5' : IntKind.i64.wrap (a0 + lo - 1) = (a : Int) := by rw [hae]; exact w2'
          have w6' : IntKind.i64.wrap (a0 + hi - 1) = (d : Int) := by rw [hde]; exact w4'
          rw [← hae, ← hde] at HM2
          clear w2' w4'
          have HADB := hide (show 1 ≤ a ∧ a ≤ d ∧ d ≤ 65537 by omega)
          have HAE := hide hae
          have HDE := hide hde
          clear m1 m2 hm1 hm2 hm2' hae hde
          go_wp2_with (first | (go_at_call 70; (with_reducible refine Calls.mono (HM1.out _) ?_); rintro r w5 ⟨rfl, rfl⟩) | (go_at_call 70; (with_reducible refine Calls.mono (HM2.out _) ?_); rintro r w5 ⟨rfl, rfl⟩))
          obtain ⟨sb, hsb⟩ : ∃ s, s = wr.heap.size := ⟨_, rfl⟩
          rw [← hsb] at HBK b0 b1 b2 ⊢
          clear hsb
          obtain ⟨w3, rfl⟩ : ∃ x : World, x = wr := ⟨_, rfl⟩
          have hq2 : (q.length : Int) ≤ 1000000 := by omega
          obtain ⟨ql, hqe⟩ : ∃ m, m = q.length := ⟨_, rfl⟩
          rw [← hqe] at HBK HQR HST2 b0 b1 b2 hql hq2 ⊢
          have HQE := hide hqe
          clear hqe
          have HBD := hide (show ∀ (j : Nat), j ≤ ql → ∀ x, N + cov a0 ((sns S).take k) x + (if a ≤ x ∧ x < d then j else 0) ≤ N + D from fun j hj x => by
            have h1 := HCV.out x
            have h2 := cov_take a0 (sns S) (k + 1) x
            rw [cov_step HPP.out] at h2
            have h3 := HAE.out
            have h4 := HDE.out
            have h5 := HQE.out
            by_cases hx : a ≤ x ∧ x < d
            · rw [if_pos (show a0 + lo - 1 ≤ (x : Int) ∧ (x : Int) < a0 + hi - 1 by omega)] at h2
              rw [if_pos hx]
              have h6 : (⟨lo, hi, q⟩ : Sn).pr.length = q.length := rfl
              omega
            · rw [if_neg hx]
              omega)
          go_loopw [10] (fun jv wq => ∃ (j : Nat) (L2 : List (List Pr)) (P2 : List Pc), j ≤ ql ∧ jv = .int .i64 (j : Int) ∧ ROb w wq rb2 L2 ∧ Like L2 P2 ∧ Blk wq sb 38 #[.int .i64 lo, .int .i64 hi, .slice Ap ql cp] ∧ Left1 a d q P1 j P2 ∧ GoodF P2 (fun x => N + cov a0 ((sns S).take k) x + (if a ≤ x ∧ x < d then j else 0))) (fun jv _ => ql - (intOf jv).toNat)
          case atStart => exact ⟨0, L1, P1, Nat.zero_le _, rfl, HST2.out, HLK.out, HBK.out, rfl, HGF.out.mono fun x => Nat.le_add_right _ _⟩
          case round =>
            clear HLK b0 b1 b2
            obtain ⟨j, L2, P2, hj, rfl, hq, hlk, hbk, hl1, hg2⟩ := hrel
            have HL1 := hide hl1
            have HG2 := hide hg2
            have HQ := hide hq
            have HBK := hide hbk
            have HLK := hide hlk
            have s0 := hbk.cell 0
            have s1 := hbk.cell 1
            have s2 := hbk.cell 2
            by_cases hjl : j < ql
            · have u1 : decide (j < ql) = true := by simpa using hjl
              have u2 : decide ((j : Int) < (ql : Int)) = true := by simp; omega
              have u3 : (j : Int) < (ql : Int) := by omega
              obtain ⟨x, hx⟩ : ∃ x, q[j]? = some x := ⟨_, List.getElem?_eq_getElem (by rw [← HQE.out]; exact hjl)⟩
              have hqr2 : Rd wr (.slice Ap ql cp) 3 ql (rows prC q) := by
                have := HQR.out
                exact this.belowN hq.bel
              obtain ⟨g2, o2, e2, r0, r1, r2⟩ := PrS.at_ hqr2 HQE.out hx
              subst e2
              have HX := hide hx
              have HJL := hide hjl
              clear hq hbk hl1 hg2 hj hjl hx hqr2 hlk
              by_cases hneg : x.1 < 0
              · have v1 : decide (x.1 < 0) = true := by simpa using hneg
                obtain ⟨e1, e2⟩ := pasteR_bad (P := P) HA.out (HLF.out.bad1 HPP.out HMM.out (e := 17) (by
                  have := HL1.out.bad HX.out hneg
                  rw [← HAE.out, ← HDE.out, Int.toNat_natCast, Int.toNat_natCast]
                  exact this))
                have HE1 := hide e1
                have HE2 := hide e2
                clear hneg e1 e2
                go_wp2_with fail
                go_ret
                rw [HE1.out, HE2.out]
                exact ⟨rfl, HSAME.out _ HQ.out.bel⟩
              · have v1 : decide (x.1 < 0) = false := by simpa using hneg
                have HNEG := hide hneg
                have HGD := hide (show Good P2 (N + D) from HG2.out.good (HBD.out j (by have := HJL.out; omega)))
                clear hneg
                go_upto_region 15 with fail
                have HB2 := hide ((Below.refl wr.heap.size wr).drew)
                have HS0 := hide (show (wr.cell? ⟨sb, 0, none⟩ = some (.int .i64 lo) ∧ wr.cell? ⟨sb, 1, none⟩ = some (.int .i64 hi) ∧ wr.cell? ⟨sb, 2, none⟩ = some (.slice (some ⟨g2, o2, none⟩) ql cp) ∧ wr.cell? ⟨g2, o2 + j * 3, none⟩ = some (.int .i64 x.1) ∧ wr.cell? ⟨g2, o2 + j * 3 + 1, none⟩ = some (.int .i64 x.2.1) ∧ wr.cell? ⟨g2, o2 + j * 3 + 1 + 1, none⟩ = some (.int .i64 x.2.2)) from ⟨s0, s1, s2, r0, r1, r2⟩)
                refine wp_region_d (S := fun y => (y.cell? ⟨sb, 0, none⟩ = some (.int .i64 lo) ∧ y.cell? ⟨sb, 1, none⟩ = some (.int .i64 hi) ∧ y.cell? ⟨sb, 2, none⟩ = some (.slice (some ⟨g2, o2, none⟩) ql cp) ∧ y.cell? ⟨g2, o2 + j * 3, none⟩ = some (.int .i64 x.1) ∧ y.cell? ⟨g2, o2 + j * 3 + 1, none⟩ = some (.int .i64 x.2.1) ∧ y.cell? ⟨g2, o2 + j * 3 + 1 + 1, none⟩ = some (.int .i64 x.2.2))) (D := [16]) (by kernel_rfl) ?_
                change wpAnyD _ _ _ _ _ _ _ _ _ wr.drew
                obtain ⟨w2, hw2⟩ : ∃ y : World, y = wr.drew := ⟨_, rfl⟩
                rw [← hw2] at HB2 ⊢
                clear hw2
                have hS : (w2.cell? ⟨sb, 0, none⟩ = some (.int .i64 lo) ∧ w2.cell? ⟨sb, 1, none⟩ = some (.int .i64 hi) ∧ w2.cell? ⟨sb, 2, none⟩ = some (.slice (some ⟨g2, o2, none⟩) ql cp) ∧ w2.cell? ⟨g2, o2 + j * 3, none⟩ = some (.int .i64 x.1) ∧ w2.cell? ⟨g2, o2 + j * 3 + 1, none⟩ = some (.int .i64 x.2.1) ∧ w2.cell? ⟨g2, o2 + j * 3 + 1 + 1, none⟩ = some (.int .i64 x.2.2)) := ⟨cell_keep HS0.out.1 HB2.out, cell_keep HS0.out.2.1 HB2.out, cell_keep HS0.out.2.2.1 HB2.out, cell_keep HS0.out.2.2.2.1 HB2.out, cell_keep HS0.out.2.2.2.2.1 HB2.out, cell_keep HS0.out.2.2.2.2.2 HB2.out⟩
                have HQ4 := hide (HQ.out.below HB2.out)
                have HB4 := hide (HBK.out.below HB2.out HBK.out.lt)
                have HPU := hide (rput_any HQ4.out a d (N + D) x HADB.out.1 HADB.out.2.1 HADB.out.2.2 (HLK.out.fit HGD.out) (by have := HND.out; omega))
                clear s0 s1 s2 r0 r1 r2
                refine wpAnyD_takeW (i := 0) (oi := { dst := some 63, op := Op.move (Operand.tmp 7), type := 61, pos := "ref.go:213", after := #[], guard := none }) (v := ?_) rfl (by kernel_rfl) (by kernel_rfl) (by kernel_rfl) (fun _ _ _ h => h) (Or.inl ⟨by rfl, ?_⟩) ?_
                rotate_left
                · intro w hSw
                  clear hSw
                  go_simp
                  all_goals with_reducible rfl
                simp only [Act.put, List.setIfInBounds_toArray, List.set_cons_zero, List.set_cons_succ]
                refine wpAnyD_takeW (i := 1) (oi := { dst := some 64, op := Op.move (Operand.tmp 1), type := 3, pos := "ref.go:213", after := #[], guard := none }) (v := ?_) rfl (by kernel_rfl) (by kernel_rfl) (by kernel_rfl) (fun _ _ _ h => h) (Or.inl ⟨by rfl, ?_⟩) ?_
                rotate_left
                · intro w hSw
                  clear hSw
                  go_simp
                  all_goals with_reducible rfl
                simp only [Act.put, List.setIfInBounds_toArray, List.set_cons_zero, List.set_cons_succ]
                refine wpAnyD_takeW (i := 2) (oi := { dst := some 65, op := Op.fieldAddr 38 (Operand.tmp 9) 0, type := 0, pos := "ref.go:213", after := #[], guard := none }) (v := ?_) rfl (by kernel_rfl) (by kernel_rfl) (by kernel_rfl) (fun _ _ _ h => h) (Or.inl ⟨by rfl, ?_⟩) ?_
                rotate_left
                · intro w hSw
                  clear hSw
                  go_simp
                  all_goals with_reducible rfl
                simp only [Act.put, List.setIfInBounds_toArray, List.set_cons_zero, List.set_cons_succ]
                refine wpAnyD_take (i := 3) (oi := { dst := some 66, op := Op.load 3 (Operand.tmp 65), type := 3, pos := "ref.go:213", after := #[{ on := 2, ground := Ground.data }], guard := none }) (v := ?_) rfl (by kernel_rfl) (by kernel_rfl) (by kernel_rfl) (by kernel_rfl) (by kernel_rfl) (fun _ _ _ h => h) (Or.inl ⟨by rfl, ?_⟩) hS ?_
                rotate_left
                · intro w hSw
                  obtain ⟨s0, s1, s2, s3, s4, s5⟩ := hSw
                  go_simp
                  all_goals with_reducible rfl
                simp only [Act.put, List.setIfInBounds_toArray, List.set_cons_zero, List.set_cons_succ]
                refine wpAnyD_takeW (i := 4) (oi := { dst := some 67, op := Op.binOp BinOp.add 3 (Operand.tmp 64) (Operand.tmp 66) 3, type := 3, pos := "ref.go:213", after := #[{ on := 1, ground := Ground.data }, { on := 3, ground := Ground.data }], guard := none }) (v := ?_) rfl (by kernel_rfl) (by kernel_rfl) (by kernel_rfl) (fun _ _ _ h => h) (Or.inl ⟨by rfl, ?_⟩) ?_
                rotate_left
                · intro w hSw
                  clear hSw
                  go_simp
                  all_goals with_reducible rfl
                simp only [Act.put, List.setIfInBounds_toArray, List.set_cons_zero, List.set_cons_succ]
                refine wpAnyD_takeW (i := 5) (oi := { dst := some 68, op := Op.binOp BinOp.sub 3 (Operand.tmp 67) (Operand.const (Value.int IntKind.i64 1)) 3, type := 3, pos := "ref.go:213", after := #[{ on := 4, ground := Ground.data }], guard := none }) (v := ?_) rfl (by kernel_rfl) (by kernel_rfl) (by kernel_rfl) (fun _ _ _ h => h) (Or.inl ⟨by rfl, ?_⟩) ?_
                rotate_left
                · intro w hSw
                  clear hSw
                  go_simp
                  all_goals with_reducible rfl
                simp only [Act.put, List.setIfInBounds_toArray, List.set_cons_zero, List.set_cons_succ]
                refine wpAnyD_takeW (i := 6) (oi := { dst := some 69, op := Op.move (Operand.tmp 1), type := 3, pos := "ref.go:213", after := #[], guard := none }) (v := ?_) rfl (by kernel_rfl) (by kernel_rfl) (by kernel_rfl) (fun _ _ _ h => h) (Or.inl ⟨by rfl, ?_⟩) ?_
                rotate_left
                · intro w hSw
                  clear hSw
                  go_simp
                  all_goals with_reducible rfl
                simp only [Act.put, List.setIfInBounds_toArray, List.set_cons_zero, List.set_cons_succ]
                refine wpAnyD_takeW (i := 7) (oi := { dst := some 70, op := Op.fieldAddr 38 (Operand.tmp 9) 1, type := 0, pos := "ref.go:213", after := #[], guard := none }) (v := ?_) rfl (by kernel_rfl) (by kernel_rfl) (by kernel_rfl) (fun _ _ _ h => h) (Or.inl ⟨by rfl, ?_⟩) ?_
                rotate_left
                · intro w hSw
                  clear hSw
                  go_simp
                  all_goals with_reducible rfl
                simp only [Act.put, List.setIfInBounds_toArray, List.set_cons_zero, List.set_cons_succ]
                refine wpAnyD_take (i := 8) (oi := { dst := some 71, op := Op.load 3 (Operand.tmp 70), type := 3, pos := "ref.go:213", after := #[{ on := 7, ground := Ground.data }], guard := none }) (v := ?_) rfl (by kernel_rfl) (by kernel_rfl) (by kernel_rfl) (by kernel_rfl) (by kernel_rfl) (fun _ _ _ h => h) (Or.inl ⟨by rfl, ?_⟩) hS ?_
                rotate_left
                · intro w hSw
                  obtain ⟨s0, s1, s2, s3, s4, s5⟩ := hSw
                  go_simp
                  all_goals with_reducible rfl
                simp only [Act.put, List.setIfInBounds_toArray, List.set_cons_zero, List.set_cons_succ]
                refine wpAnyD_takeW (i := 9) (oi := { dst := some 72, op := Op.binOp BinOp.add 3 (Operand.tmp 69) (Operand.tmp 71) 3, type := 3, pos := "ref.go:213", after := #[{ on := 6, ground := Ground.data }, { on := 8, ground := Ground.data }], guard := none }) (v := ?_) rfl (by kernel_rfl) (by kernel_rfl) (by kernel_rfl) (fun _ _ _ h => h) (Or.inl ⟨by rfl, ?_⟩) ?_
                rotate_left
                · intro w hSw
                  clear hSw
                  go_simp
                  all_goals with_reducible rfl
                simp only [Act.put, List.setIfInBounds_toArray, List.set_cons_zero, List.set_cons_succ]
                refine wpAnyD_takeW (i := 10) (oi := { dst := some 73, op := Op.binOp BinOp.sub 3 (Operand.tmp 72) (Operand.const (Value.int IntKind.i64 1)) 3, type := 3, pos := "ref.go:213", after := #[{ on := 9, ground := Ground.data }], guard := none }) (v := ?_) rfl (by kernel_rfl) (by kernel_rfl) (by kernel_rfl) (fun _ _ _ h => h) (Or.inl ⟨by rfl, ?_⟩) ?_
                rotate_left
                · intro w hSw
                  clear hSw
                  go_simp
                  all_goals with_reducible rfl
                simp only [Act.put, List.setIfInBounds_toArray, List.set_cons_zero, List.set_cons_succ]
                refine wpAnyD_takeW (i := 11) (oi := { dst := some 74, op := Op.fieldAddr 38 (Operand.tmp 9) 2, type := 0, pos := "ref.go:213", after := #[], guard := none }) (v := ?_) rfl (by kernel_rfl) (by kernel_rfl) (by kernel_rfl) (fun _ _ _ h => h) (Or.inl ⟨by rfl, ?_⟩) ?_
                rotate_left
                · intro w hSw
                  clear hSw
                  go_simp
                  all_goals with_reducible rfl
                simp only [Act.put, List.setIfInBounds_toArray, List.set_cons_zero, List.set_cons_succ]
                refine wpAnyD_take (i := 12) (oi := { dst := some 75, op := Op.load 32 (Operand.tmp 74), type := 32, pos := "ref.go:213", after := #[{ on := 11, ground := Ground.data }], guard := none }) (v := ?_) rfl (by kernel_rfl) (by kernel_rfl) (by kernel_rfl) (by kernel_rfl) (by kernel_rfl) (fun _ _ _ h => h) (Or.inl ⟨by rfl, ?_⟩) hS ?_
                rotate_left
                · intro w hSw
                  obtain ⟨s0, s1, s2, s3, s4, s5⟩ := hSw
                  go_simp
                  all_goals with_reducible rfl
                simp only [Act.put, List.setIfInBounds_toArray, List.set_cons_zero, List.set_cons_succ]
                refine wpAnyD_takeW (i := 13) (oi := { dst := some 76, op := Op.move (Operand.tmp 10), type := 3, pos := "ref.go:213", after := #[], guard := none }) (v := ?_) rfl (by kernel_rfl) (by kernel_rfl) (by kernel_rfl) (fun _ _ _ h => h) (Or.inl ⟨by rfl, ?_⟩) ?_
                rotate_left
                · intro w hSw
                  clear hSw
                  go_simp
                  all_goals with_reducible rfl
                simp only [Act.put, List.setIfInBounds_toArray, List.set_cons_zero, List.set_cons_succ]
                refine wpAnyD_takeW (i := 14) (oi := { dst := some 77, op := Op.indexAddr 32 (Operand.tmp 75) (Operand.tmp 76), type := 0, pos := "ref.go:213", after := #[{ on := 12, ground := Ground.data }, { on := 13, ground := Ground.data }], guard := none }) (v := ?_) rfl (by kernel_rfl) (by kernel_rfl) (by kernel_rfl) (fun _ _ _ h => h) (Or.inl ⟨by rfl, ?_⟩) ?_
                rotate_left
                · intro w hSw
                  clear hSw
                  go_simp
                  all_goals with_reducible rfl
                simp only [Act.put, List.setIfInBounds_toArray, List.set_cons_zero, List.set_cons_succ]
                refine wpAnyD_take (i := 15) (oi := { dst := some 78, op := Op.load 36 (Operand.tmp 77), type := 36, pos := "ref.go:213", after := #[{ on := 14, ground := Ground.data }], guard := none }) (v := ?_) rfl (by kernel_rfl) (by kernel_rfl) (by kernel_rfl) (by kernel_rfl) (by kernel_rfl) (fun _ _ _ h => h) (Or.inl ⟨by rfl, ?_⟩) hS ?_
                rotate_left
                · intro w hSw
                  obtain ⟨s0, s1, s2, s3, s4, s5⟩ := hSw
                  go_simp
                  all_goals with_reducible rfl
                simp only [Act.put, List.setIfInBounds_toArray, List.set_cons_zero, List.set_cons_succ]
                clear hS
                refine wpAnyD_one (i := 16) (o := { dst := some 79, op := Op.call { callee := Callee.value (Operand.func 80), args := #[Operand.tmp 63, Operand.tmp 68, Operand.tmp 73, Operand.tmp 78], argTypes := #[61, 3, 3, 36] }, type := 0, pos := "ref.go:213", after := #[{ on := 0, ground := Ground.data }, { on := 5, ground := Ground.data }, { on := 10, ground := Ground.data }, { on := 15, ground := Ground.data }], guard := none }) (by kernel_rfl) rfl (fun K hK => ?_)
                go_simp
                (with_reducible refine Calls.mono HPU.out ?_)
                rintro r w6 ⟨rfl, L6, h6, p6, k6⟩
                have HR6 := hide h6
                have HB6 := hide (k6.toBlk HB4.out (by unfold isRef; decide))
                have HL6 := hide (p6.like HLK.out HGD.out HADB.out.2.1)
                refine hK _ _ (fun h => by cases h) ?_
                clear hK K h6 p6 k6
                try simp only [Act.put, List.setIfInBounds_toArray, List.set_cons_zero, List.set_cons_succ]
                refine wpAnyD_done (by kernel_rfl) ?_ _
                go_wp2_with fail
                go_roundw
                case rel =>
                  refine ⟨j + 1, L6, _, HJL.out, by go_num, HR6.out, HL6.out, HB6.out, HL1.out.step HX.out (by have := HNEG.out; omega), ?_⟩
                  refine (HG2.out.put HADB.out.1 HADB.out.2.1 HADB.out.2.2 (by have := HNEG.out; omega)).mono fun y => ?_
                  show N + cov a0 ((sns S).take k) y + (if a ≤ y ∧ y < d then j else 0) + (if a ≤ y ∧ y < d then 1 else 0) ≤ _
                  split <;> omega
                case measure => have := HJL.out; simp [intOf]; omega
            · obtain rfl : j = ql := by omega
              have u1 : decide (j < j) = false := by simp
              have u2 : decide ((j : Int) < (j : Int)) = false := by simp
              clear hq hbk hl1 hg2 hj hjl hlk
              go_wp2_with fail
              go_roundw
              case rel =>
                refine ⟨k + 1, L2, P2, HLT.out, by go_num, HQ.out, HLK.out, ?_, ?_⟩
                · refine HLF.out.step HPP.out HMM.out ?_
                  have e := HL1.out
                  rw [HQE.out] at e
                  rw [← HAE.out, ← HDE.out, Int.toNat_natCast, Int.toNat_natCast]
                  exact e.done
                · refine HG2.out.mono fun y => ?_
                  rw [cov_step HPP.out]
                  have h3 := HAE.out
                  have h4 := HDE.out
                  have h5 := HQE.out
                  have h6 : (⟨lo, hi, q⟩ : Sn).pr.length = q.length := rfl
                  by_cases hx : a ≤ y ∧ y < d
                  · rw [if_pos hx, if_pos (show a0 + (⟨lo, hi, q⟩ : Sn).lo - 1 ≤ (y : Int) ∧ (y : Int) < a0 + (⟨lo, hi, q⟩ : Sn).hi - 1 by simp only []; omega)]
                    omega
                  · rw [if_neg hx]
                    omega
              case measure => have := HLT.out; simp [intOf]; omega
        · have hm2 : decide (mayP (a0 + lo - 1) (a0 + hi - 1)) = false := decide_eq_false m2
          rw [hm2] at HM2
          obtain ⟨e1, e2⟩ := pasteR_bad (P := P) HA.out (HLF.out.bad HPP.out (fun hh => m2 hh.2))
          have HE1 := hide e1
          have HE2 := hide e2
          clear m1 m2 hm1 hm2 e1 e2
          go_wp2_with (first | (go_at_call 70; (with_reducible refine Calls.mono (HM1.out _) ?_); rintro r w5 ⟨rfl, rfl⟩) | (go_at_call 70; (with_reducible refine Calls.mono (HM2.out _) ?_); rintro r w5 ⟨rfl, rfl⟩))
          go_ret
          rw [HE1.out, HE2.out]
          exact ⟨rfl, HSAME.out _ HST2.out.bel⟩
      · have hm1 : decide (mayP lo hi) = false := decide_eq_false m1
        rw [hm1] at HM1
        obtain ⟨e1, e2⟩ := pasteR_bad (P := P) HA.out (HLF.out.bad HPP.out (fun hh => m1 hh.1))
        have HE1 := hide e1
        have HE2 := hide e2
        clear m1 hm1 e1 e2
        go_wp2_with (go_at_call 70; (with_reducible refine Calls.mono (HM1.out _) ?_); rintro r w5 ⟨rfl, rfl⟩)
        go_ret
        rw [HE1.out, HE2.out]
        exact ⟨rfl, HSAME.out _ HST2.out.bel⟩
    · obtain rfl : k = nn := by omega
      have y1 : decide (k < k) = false := by simp
      have y2 : decide ((k : Int) < (k : Int)) = false := by simp
      have hdone : pasteS a0 (sns S) P = .inr P1 := by
        have e := HLF.out
        rw [HNN.out, ← sns_len] at e
        exact e.done
      have hgd : Good P1 (N + D) := HGF.out.good (fun x => Nat.le_trans (Nat.add_le_add_left (cov_take a0 (sns S) k x) N) (Nat.add_le_add_left (HCV.out x) N))
      obtain ⟨v3, R3, hr3, hrl3, hg3⟩ := hst.ex
      have HR3 := hide hr3
      have HRL3 := hide hrl3
      have HG3 := hide hg3
      have HFU := hide (rfull_any hr3 (by rw [hrl3]; exact hlk) hgd (by have := HND.out; omega))
      clear hst hlf hgf hlt hk hgd hr3 hrl3 hg3 hlk
      cases hfu : fullP P1 with
      | true =>
        obtain ⟨e1, e2⟩ := pasteR_full HA.out hdone hfu
        have HE1 := hide e1
        have HE2 := hide e2
        rw [hfu] at HFU
        clear hdone hfu e1 e2
        go_wp2_with fail
        refine (Calls.mono HFU.out) ?_
        rintro r w4 ⟨rfl, b4⟩
        have HB4 := hide (HST.out.bel.trans (b4.mono HST.out.bel.size))
        clear b4
        go_wp2_with fail
        go_ret
        rw [HE1.out, HE2.out]
        exact ⟨rfl, HSAME.out _ HB4.out⟩
      | false =>
        obtain ⟨e1, e2⟩ := pasteR_ok HA.out hdone hfu
        have HE1 := hide e1
        have HE2 := hide e2
        rw [hfu] at HFU
        clear hdone hfu e1 e2
        go_wp2_with fail
        refine (Calls.mono HFU.out) ?_
        rintro r w4 ⟨rfl, b4⟩
        have HB4 := hide (HST.out.bel.trans (b4.mono HST.out.bel.size))
        have hr4 := HR3.out.below b4
        have HX4 := hide hr4.inn
        have c0 : w4.cell? ⟨rb2, 0, none⟩ = some v3 := hr4.box.cell 0
        have hbx := HR0.out.box.below HB4.out HR0.out.box.lt
        have c1 := hbx.cell 0
        have f1 := hbx.frozen 0
        have HBB := hide hbx
        obtain ⟨A3, c3, e3, _⟩ := hr4.inn.row.form
        subst e3
        clear b4 hr4 hbx
        go_wp2_with fail
        go_ret
        rw [HE1.out, HE2.out]
        refine ⟨rfl, ⟨L1, ?_, HLK.out⟩, (KeepT.of_below HB4.out).trans (keep_store HBB.out)⟩
        have := ROb.store H.out (H.out.bel.trans (HB4.out.mono H.out.bel.size)) ⟨_, HBB.out⟩ HX4.out HR3.out.len HR3.out.fit (fun g hg => Nat.le_trans H.out.bel.size (HG3.out g hg)) rfl
        rw [HRL3.out] at this
        exact this
end
end Go.Proofs.Ytgiogmbopiblmaa
