/- A part of a slice of pieces replaced: plain laws of lists, the builtins' runs. No condition but those written. -/
import Derived.Test.YtgiogmbopiblmaaPpl
import Derived.Lib.Overlaps
import Derived.Lib.AppendZerosOnto
namespace Go.Proofs.Ytgiogmbopiblmaa
open Go.RowKit

theorem splice_take_lo {α : Type} {L : List α} {o : Nat} (ys : List α) (h : o ≤ L.length) : (splice L o ys).take o = L.take o := by
  unfold splice
  rw [List.take_append_of_le_length (by rw [List.length_take]; omega), List.take_take, Nat.min_self]
theorem splice_take_hi {α : Type} {L : List α} {o u : Nat} (ys : List α) (h : o ≤ L.length) (hu : u = o + ys.length) : (splice L o ys).take u = L.take o ++ ys := by
  subst hu
  unfold splice
  rw [← List.append_assoc, List.take_append_of_le_length (by rw [List.length_append, List.length_take]; omega), List.take_of_length_le (by rw [List.length_append, List.length_take]; omega)]
theorem splice_drop_hi {α : Type} {L : List α} {o k : Nat} (ys : List α) (h : o ≤ L.length) (hk : o + ys.length ≤ k) : (splice L o ys).drop k = L.drop k := by
  unfold splice
  rw [List.drop_append, List.drop_eq_nil_of_le (by rw [List.length_take]; omega), List.nil_append, List.drop_append, List.drop_eq_nil_of_le (by rw [List.length_take]; omega), List.nil_append, List.drop_drop, List.length_take]
  congr 1
  omega
/-- The piece fits in the part that goes. -/
theorem lay_fit {α : Type} {xs vs qs : List α} {a j n u t : Nat} (hx : xs.length = n) (hj : j ≤ n) (hu : u = a + vs.length) (hu2 : u ≤ j) (ht : t = u + (n - j)) : (splice (splice (splice xs a vs) u ((splice xs a vs).drop j)) t qs).take t = xs.take a ++ vs ++ xs.drop j := by
  have h1 : (splice xs a vs).length = n := by rw [splice_len _ _ _ (by omega), hx]
  have h2 : ((splice xs a vs).drop j).length = n - j := by rw [List.length_drop, h1]
  have h3 : (splice (splice xs a vs) u ((splice xs a vs).drop j)).length = n := by rw [splice_len _ _ _ (by rw [h2, h1]; omega), h1]
  rw [splice_take_lo _ (by omega), splice_take_hi _ (by omega) (by rw [h2]; exact ht), splice_take_hi _ (by omega) hu, splice_drop_hi _ (by omega) (by omega)]
/-- It does not fit: the tail first. -/
theorem lay_wide {α : Type} {zs xs vs : List α} {a j n u t : Nat} (hx : xs.length = n) (hj : j ≤ n) (ha : a ≤ j) (hu : u = a + vs.length) (ht : t = u + (n - j)) (hz : zs.length = t) (htk : zs.take n = xs) : splice (splice zs u (xs.drop j)) a vs = xs.take a ++ vs ++ xs.drop j := by
  have e1 : splice zs u (xs.drop j) = zs.take u ++ xs.drop j := splice_end _ _ _ (by rw [List.length_drop]; omega)
  rw [e1]
  unfold splice
  rw [List.take_append_of_le_length (by rw [List.length_take]; omega), List.take_take, Nat.min_eq_left (by omega), ← hu, List.drop_append_of_le_length (by rw [List.length_take]; omega), List.drop_eq_nil_of_le (by rw [List.length_take]; omega), List.nil_append, ← List.append_assoc]
  congr 2
  rw [← htk, List.take_take, Nat.min_eq_left (by omega)]
/-- In a new row. -/
theorem lay_new {α : Type} {zs xs vs : List α} {a j n u t : Nat} (hx : xs.length = n) (hj : j ≤ n) (_ha : a ≤ j) (hu : u = a + vs.length) (ht : t = u + (n - j)) (hz : zs.length = t) (htk : zs.take a = xs.take a) : splice (splice zs a vs) u (xs.drop j) = xs.take a ++ vs ++ xs.drop j := by
  have h1 : (splice zs a vs).length = t := by rw [splice_len _ _ _ (by omega), hz]
  rw [splice_end _ _ _ (by rw [List.length_drop, h1]; omega), splice_take_hi _ (by omega) hu, htk]
/-- Behind the last one. -/
theorem lay_end {α : Type} {xs vs qs : List α} {a n u : Nat} (hx : xs.length = n) (hu : u = a + vs.length) (hn : u ≤ n) : (splice (splice xs a vs) u qs).take u = xs.take a ++ vs := by
  rw [splice_take_lo _ (by rw [splice_len _ _ _ (by omega)]; omega), splice_take_hi _ (by omega) hu]
section
variable {P : Program} {w w' : World} {T : TypeId} {k g off n c : Nat} {xs : List Value}
/-- append to a front part of a slice of ours, where the slice has room for it. -/
theorem run_append_in (t ty e : TypeId) (i0 : TypeInfo) (ht : P.underlying t = some (.slice e)) (hi : P.info? e = some i0) (hk : i0.size = k) (h : Sl w T k (.slice (some ⟨g, off, none⟩) n c) n xs) (i m d : Nat) (vs : List Value) (sp : Option Addr) (hv : vs.length = m * k) (hin : i + m ≤ n) (hsrc : 0 < m → ∃ b o, sp = some ⟨b, o, none⟩ ∧ ∀ q v, vs[q]? = some v → w.cell? ⟨b, o + q, none⟩ = some v) (h1 : ∀ v ∈ vs, v.oneCell' = true) :
    ∃ w', (Builtin.append_ #[t, t] ty #[.slice (some ⟨g, off, none⟩) i c, .slice sp m d]).run P w = .ok (.slice (some ⟨g, off, none⟩) (i + m) c) w' ∧ Sl w' T k (.slice (some ⟨g, off, none⟩) n c) n (splice xs (i * k) vs) ∧ Only (· = g) w w' := by
  have hnc : n ≤ c := by
    rcases h.2 with ⟨e, _⟩ | ⟨_, _, _, _, e, _, h2, _⟩
    · cases e
    · injection e with _ _ e
      omega
  have hle : i + m ≤ c := by omega
  by_cases h0 : m = 0
  · subst h0
    obtain rfl : vs = [] := List.eq_nil_of_length_eq_zero (by simpa using hv)
    have hle' : i ≤ c := by omega
    refine ⟨w, ?_, by simpa [splice] using h, Only.refl _ _⟩
    have hl : ∀ (x : Addr), (loadCells x 0).run P w = .ok #[] w := fun x => by simpa using run_loadCells_list (P := P) w x [] (by simp)
    cases sp <;> simp [Builtin.append_, run_underlying ht, sizeOf, typeInfo, hi, hk, Builtin.lenOf, Builtin.firstCells, hl, hle', storeCells]
  · obtain ⟨b, o, rfl, hsr⟩ := hsrc (by omega)
    have hjk : i * k + vs.length ≤ n * k := by rw [hv, ← Nat.add_mul]; exact Nat.mul_le_mul_right k hin
    obtain ⟨cur, hg, hfit, hs, ho⟩ := h.set_row (i * k) vs (by omega) hjk
    have hl := run_loadCells_list (P := P) w ⟨b, o, none⟩ vs (fun q v hv => by rw [Addr.add_lit]; exact hsr q v hv)
    have hst := run_storeCells_at P g (off + i * k) T vs 0 cur w hg (by simpa using hfit) h1
    rw [hv] at hl
    refine ⟨_, ?_, hs, ho⟩
    simp [Builtin.append_, run_underlying ht, sizeOf, typeInfo, hi, hk, Builtin.lenOf, Builtin.firstCells, hl, hle, Addr.add_lit, hst]
theorem zeroCells_one {z : Array Value} (h1 : ∀ u ∈ z.toList, u.oneCell' = true) (m : Nat) : ∀ v ∈ (Builtin.zeroCells z m).toList, v.oneCell' = true := by
  intro u hu
  simp only [Builtin.zeroCells, Array.toList_map, List.mem_map, Array.mem_toList_iff, Array.mem_range] at hu
  obtain ⟨i, hi, rfl⟩ := hu
  have hpos : 0 < z.size := by
    rcases Nat.eq_zero_or_pos z.size with h0 | h0
    · rw [h0] at hi; omega
    · exact h0
  have hlt := Nat.mod_lt i hpos
  rw [getElem!_pos z (i % z.size) hlt]
  exact h1 _ (Array.getElem_mem_toList hlt)
end
section
variable {w w' : World} {sv vv v' : Value} {L X : List (Pc × Value)} {i j : Nat}
theorem PcsAt.replaced (h : PcsAt w sv L) (hx : PcsAt w vv X) (hi : i ≤ j) (hj : j ≤ L.length) {N : Nat} (hN : N = i + X.length + (L.length - j)) (hs : Sl w' 73 3 v' N ((rows pcC L).take (i * 3) ++ rows pcC X ++ (rows pcC L).drop (j * 3))) (ho : Only (fun g => sv.ownBlock = some g) w w') : PcsAt w' v' (L.take i ++ X ++ L.drop j) := by
  refine ⟨?_, fun p hp => ?_⟩
  · have e : (L.take i ++ X ++ L.drop j).length = N := by rw [hN]; simp; omega
    rw [e, rows_append, rows_append, ← rows_take pcC_len, ← rows_drop pcC_len]
    exact hs
  · have : PrS w p.2 p.1.pr := by
      rcases List.mem_append.1 hp with hp | hp
      · rcases List.mem_append.1 hp with hp | hp
        · exact h.inn p (List.mem_of_mem_take hp)
        · exact hx.inn p hp
      · exact h.inn p (List.mem_of_mem_drop hp)
    exact this.apart h.row ho
theorem pcs_replaced (i j : Nat) (L X : List (Pc × Value)) : pcs (L.take i ++ X ++ L.drop j) = (pcs L).take i ++ pcs X ++ (pcs L).drop j := by simp [pcs]
theorem zero_pc (w : World) : (zeroValue 73).run Try.prog w = .ok (.agg #[.int .i64 0, .int .i64 0, .slice none 0 0]) w := by kernel_rfl
theorem pc_one : ∀ u ∈ (Value.agg #[.int .i64 0, .int .i64 0, .slice none 0 0]).cells.toList, u.oneCell' = true := by
  intro u hu
  simp [Value.cells] at hu
  rcases hu with rfl | rfl | rfl <;> rfl
theorem size_pc : (Try.prog.info? 73).map (·.size) = some 3 := by kernel_rfl
end
end Go.Proofs.Ytgiogmbopiblmaa
namespace Go.Proofs.Ytgiogmbopiblmaa
open Go.RowKit

section
variable {w w' : World} {sv vv v' : Value} {L X : List (Pc × Value)} {i j : Nat}
set_option maxRecDepth 100000 in
set_option maxHeartbeats 4000000 in
theorem ins0_any (h : PcsAt w sv []) (hx : PcsAt w vv X) (hX : X.length ≤ 1000000) : Calls Try.prog 85 #[sv, .int .i64 0, vv] w (PcsRes w sv (pcs X)) := by
  obtain ⟨i0, hi, hz0, hz1, hz2⟩ := info_parts info_pc
  obtain ⟨B, c, rfl, _, hcm⟩ := h.row.form
  obtain ⟨V, d, rfl, _, _⟩ := hx.row.form
  unfold maxLen at hcm
  obtain ⟨m, hm⟩ : ∃ m, m = X.length := ⟨_, rfl⟩
  have HH := hide h
  have HX := hide hx
  rw [← hm] at HX hX ⊢
  have hX2 : (m : Int) ≤ 1000000 := by omega
  have HM := hide hm
  simp only [List.length_nil] at HH hcm ⊢
  have hS := hide (show Sl w 73 3 (.slice B 0 c) 0 [] from h.row)
  have hRX := hide (show Rd w (.slice V m d) 3 m (rows pcC X) from by rw [hm]; exact hx.row.rd)
  have hone := hide hx.one
  clear h hx hm
  by_cases h0 : m = 0
  · subst h0
    obtain rfl : X = [] := List.eq_nil_of_length_eq_zero HM.out.symm
    go_enter Try.func85, Try.ntmps85
    go_wp2
    all_goals (go_ret; exact ⟨_, [], rfl, HH.out, rfl, Only.refl _ _, .inl rfl⟩)
  · have z0 : ((m : Int) == 0) = false := by simp; omega
    have z1 : ¬ (m : Int) = 0 := by omega
    go_enter Try.func85, Try.ntmps85
    go_wp2_with (at_builtin; refine wpList_append_sl rfl (.tmp 23) (.tmp 24) 67 rfl 73 i0 (.agg #[.int .i64 0, .int .i64 0, .slice none 0 0]) 3 40 Try.underlying67 hi hz0 hz1 hz2 rfl _ 0 [] rfl hS.out _ rfl m (rows pcC X) hRX.out hone.out ?b1 ?b2 ?_)
    case b1 => unfold maxLen; omega
    case b2 => omega
    intro v2 w2 hs2 ho2 hv2
    have HF := hide (show PcsRes w (.slice B 0 c) (pcs X) (.returned v2) w2 from ⟨v2, X, rfl, HH.out.turn (by rw [← HM.out]; simpa using hs2) ho2 fun p hp => HX.out.inn p hp, rfl, ho2, hv2.imp id fun e => ⟨_, e, Nat.le_refl _⟩⟩)
    clear hs2 ho2 hv2
    go_wp2
    go_ret
    exact HF.out
set_option maxRecDepth 100000 in
set_option maxHeartbeats 8000000 in
theorem rep_ins (h : PcsAt w sv []) (hx : PcsAt w vv X) (hX : X.length ≤ 1000000) : Calls Try.prog 73 #[sv, .int .i64 0, .int .i64 0, vv] w (PcsRes w sv (pcs X)) := by
  have HI := hide (ins0_any h hx hX)
  obtain ⟨B, c, rfl, _, hcm⟩ := h.row.form
  unfold maxLen at hcm
  simp only [List.length_nil] at HI hcm ⊢
  clear h
  go_enter Try.func73, Try.ntmps73
  go_wp2_with (go_at_call 85; (with_reducible refine Calls.mono HI.out ?_); rintro r w2 ⟨v2, L2, rfl, h2⟩; have H2 := hide h2; clear h2)
  go_ret
  exact ⟨v2, L2, rfl, H2.out⟩
set_option maxRecDepth 100000 in
set_option maxHeartbeats 16000000 in
theorem rep_end (h : PcsAt w sv L) (hx : PcsAt w vv X) (hne : ∀ g, sv.ownBlock = some g → ¬ vv.ownBlock = some g) (i : Nat) (hi : i < L.length) (hL : L.length ≤ 1000000) (hX : X.length ≤ 1000000) : Calls Try.prog 73 #[sv, .int .i64 (i : Int), .int .i64 (L.length : Int), vv] w (PcsRes w sv ((pcs L).take i ++ pcs X)) := by
  obtain ⟨i0, hi0, hz0, hz1, hz2⟩ := info_parts info_pc
  obtain ⟨B, c, rfl, hnc, hcm⟩ := h.row.form
  obtain ⟨V, d, rfl, _, _⟩ := hx.row.form
  unfold maxLen at hcm
  obtain ⟨g, off, rfl⟩ : ∃ g off, B = some ⟨g, off, none⟩ := by
    obtain ⟨g, off, _, e1, _⟩ := h.row.at_ (by omega)
    injection e1 with e1 _ _
    exact ⟨g, off, e1⟩
  have hrow := h.row
  have hxl := hrow.1
  have HH := hide h
  have HX := hide hx
  obtain ⟨m, hm⟩ : ∃ m, m = X.length := ⟨_, rfl⟩
  obtain ⟨n, hn⟩ : ∃ n, n = L.length := ⟨_, rfl⟩
  have hRX := hx.row.rd
  have hvl := hx.row.1
  have HM := hide hm
  have HN := hide hn
  have hone := hx.one
  rw [← hn] at HH hrow hnc hi hL hxl ⊢
  rw [← hm] at HX hX hRX hvl ⊢
  have HFIN := hide (fun (w' : World) (v' : Value) (hs : Sl w' 73 3 v' (i + m) ((rows pcC L).take (i * 3) ++ rows pcC X)) (ho : Only (fun b => (Value.slice (some ⟨g, off, none⟩) n c).ownBlock = some b) w w') =>
    show PcsAt w' v' (L.take i ++ X) from by
      have h1 := PcsAt.replaced (h := by rw [hn] at HH; exact HH.out) hx (i := i) (j := n) (Nat.le_of_lt hi) (Nat.le_of_eq hn) (N := i + m) (by omega) (v' := v') (w' := w') (by rw [List.drop_eq_nil_of_le (by rw [hxl]; exact Nat.le_refl _), List.append_nil]; exact hs) (by rw [← hn]; exact ho)
      rw [List.drop_eq_nil_of_le (by omega), List.append_nil] at h1
      exact h1)
  have HPC := hide (show pcs (L.take i ++ X) = (pcs L).take i ++ pcs X from by simp [pcs])
  have y1 : (i : Int) ≤ (n : Int) := by omega
  have y2 : (n : Int) ≤ (c : Int) := by omega
  have y3 : ((i : Int) == (n : Int)) = false := by simp; omega
  have y4 : ¬ (i : Int) = (n : Int) := by omega
  have y5 : ¬ i = n := by omega
  have y6 : (i : Int) ≤ (c : Int) := by omega
  have y7 : ¬ c = i := by omega
  have y8 : ¬ i = c := by omega
  have yim : (i : Int) + (m : Int) ≤ 2000000 := by omega
  have hsrc : 0 < m → ∃ b o, V = some ⟨b, o, none⟩ ∧ ∀ q v, (rows pcC X)[q]? = some v → w.cell? ⟨b, o + q, none⟩ = some v := fun h0 => by
    obtain ⟨A', c', e, _, h2⟩ := hRX
    injection e with e _ _
    obtain ⟨b, o, e3, h3⟩ := h2 h0
    exact ⟨b, o, e.trans e3, h3⟩
  by_cases hfit : i + m ≤ n
  · obtain ⟨w2, hap, hs2, ho2⟩ := run_append_in (P := Try.prog) 67 0 73 i0 Try.underlying67 hi0 hz1 hrow i m d (rows pcC X) V hvl hfit hsrc hone
    have hap2 : ∀ ty, (Builtin.append_ #[67, 67] ty #[.slice (some ⟨g, off, none⟩) i c, .slice V m d]).run Try.prog w = .ok (.slice (some ⟨g, off, none⟩) (i + m) c) w2 := fun _ => hap
    obtain ⟨u, hu⟩ : ∃ u, u = i + m := ⟨_, rfl⟩
    have hu2 : (i : Int) + (m : Int) = (u : Int) := by omega
    rw [← hu] at hap2 HFIN hfit
    have HS2 := hide hs2
    have HO2 := hide ho2
    by_cases hun : u < n
    · have z1 : decide (u < n) = true := by simpa using hun
      have z2 : decide ((u : Int) < (n : Int)) = true := by simp; omega
      have z3 : (u : Int) < (n : Int) := by omega
      have z4 : ¬ c = u := by omega
      have z5 : ¬ u = c := by omega
      have z6 : (u : Int) ≤ (n : Int) := by omega
      obtain ⟨w3, hcl, ⟨qs, hql, hs3⟩, ho3⟩ := run_clear_slk (P := Try.prog) (k := 3) (m := n - u) 67 73 0 (.agg #[.int .i64 0, .int .i64 0, .slice none 0 0]) Try.underlying67 zero_pc rfl (zeroCells_one pc_one _) hs2 u (c - u) (some ⟨g, off + u * 3, none⟩) (by omega) (fun _ => rfl)
      have hcl2 : ∀ ty, (Builtin.clear_ #[67] ty #[.slice (some ⟨g, off + u * 3, none⟩) (n - u) (c - u)]).run Try.prog w2 = .ok (.tuple #[]) w3 := fun _ => hcl
      have HE := hide (show PcsAt w3 (.slice (some ⟨g, off, none⟩) u c) (L.take i ++ X) from by
        refine HFIN.out w3 _ ?_ ((ho2.trans ho3).mono fun b _ e => by subst e; rfl)
        have h4 := Sl.cut hs3 (m := u) (Nat.le_of_lt hun)
        rw [lay_end (n := n * 3) hxl (by rw [hvl, hu, Nat.add_mul]) (Nat.mul_le_mul_right 3 (Nat.le_of_lt hun))] at h4
        exact h4)
      have HOO := hide (show Only (fun b => (Value.slice (some ⟨g, off, none⟩) n c).ownBlock = some b) w w3 from (ho2.trans ho3).mono fun b _ e => by subst e; rfl)
      clear h hx hrow hs2 ho2 hap hcl hs3 ho3 hun hfit hu hn hm hnc hone hRX hvl hxl hne hql
      go_enter Try.func73, Try.ntmps73
      go_wp2_with (at_builtin; refine Lib.wpList_append_run _ rfl (.tmp 32) (.tmp 33) _ _ rfl _ _ rfl rfl _ _ (hap2 _) ?_)
      go_ret
      exact ⟨_, _, rfl, HE.out, HPC.out, HOO.out, .inl rfl⟩
    · obtain rfl : u = n := by omega
      have z1 : decide (u < u) = false := by simp
      have z2 : decide ((u : Int) < (u : Int)) = false := by simp
      have HE := hide (show PcsAt w2 (.slice (some ⟨g, off, none⟩) u c) (L.take i ++ X) from by
        refine HFIN.out w2 _ ?_ (ho2.mono fun b _ e => by subst e; rfl)
        rw [show (rows pcC L).take (i * 3) ++ rows pcC X = splice (rows pcC L) (i * 3) (rows pcC X) from (splice_end _ _ _ (by rw [hvl, hxl, hu, Nat.add_mul])).symm]
        exact hs2)
      have HOO := hide (show Only (fun b => (Value.slice (some ⟨g, off, none⟩) u c).ownBlock = some b) w w2 from ho2.mono fun b _ e => by subst e; rfl)
      clear h hx hrow hs2 ho2 hap hun hfit hu hn hm hnc hone hRX hvl hxl hne
      go_enter Try.func73, Try.ntmps73
      go_wp2_with (at_builtin; refine Lib.wpList_append_run _ rfl (.tmp 32) (.tmp 33) _ _ rfl _ _ rfl rfl _ _ (hap2 _) ?_)
      go_ret
      exact ⟨_, _, rfl, HE.out, HPC.out, HOO.out, .inl rfl⟩
  · have hS := hide (Sl.cut hrow (m := i) (Nat.le_of_lt hi))
    have z1 : decide (i + m < n) = false := by simp; omega
    have z2 : decide ((i : Int) + (m : Int) < (n : Int)) = false := by simp; omega
    have z3 : ¬ (i : Int) + (m : Int) < (n : Int) := by omega
    have hRX2 := hide hRX
    have hone2 := hide hone
    have HL := hide hL
    clear h hx hrow hfit hn hm hnc hone hRX hvl hxl hne hsrc
    go_enter Try.func73, Try.ntmps73
    go_wp2_with (at_builtin; refine wpList_append_sl rfl (.tmp 32) (.tmp 33) 67 rfl 73 i0 (.agg #[.int .i64 0, .int .i64 0, .slice none 0 0]) 3 40 Try.underlying67 hi0 hz0 hz1 hz2 rfl _ i ((rows pcC L).take (i * 3)) rfl hS.out _ rfl m (rows pcC X) hRX2.out hone2.out ?b1 ?b2 ?_)
    case b1 => unfold maxLen; omega
    case b2 => omega
    intro v2 w2 hs2 ho2 hv2
    obtain ⟨A2, c2, rfl, _⟩ := hs2.form
    have HE := hide (HFIN.out w2 _ hs2 ho2)
    have HOO := hide ho2
    have HV := hide hv2
    clear hs2 ho2 hv2
    go_wp2
    go_ret
    exact ⟨_, _, rfl, HE.out, HPC.out, HOO.out, HV.out.imp id fun e => ⟨_, e, Nat.le_refl _⟩⟩
end
end Go.Proofs.Ytgiogmbopiblmaa
namespace Go.Proofs.Ytgiogmbopiblmaa
open Go.RowKit

theorem Sl.src {w : World} {T : TypeId} {k g off n c : Nat} {xs : List Value} (h : Sl w T k (.slice (some ⟨g, off, none⟩) n c) n xs) (j : Nat) : ∀ q v, (xs.drop (j * k))[q]? = some v → w.cell? ⟨g, off + j * k + q, none⟩ = some v := fun q v hq => by
  rw [List.getElem?_drop] at hq
  obtain ⟨A, c', e, hl, h2⟩ := h.rd
  injection e with e _ _
  have hlt := (List.getElem?_eq_some_iff.1 hq).1
  rw [hl] at hlt
  have hn : 0 < n := by
    rcases Nat.eq_zero_or_pos n with h0 | h0
    · subst h0
      omega
    · exact h0
  obtain ⟨b, o, e3, h3⟩ := h2 hn
  rw [← e] at e3
  injection e3 with e3
  injection e3 with e4 e5
  subst e4 e5
  rw [Nat.add_assoc]
  exact h3 _ v hq
theorem Sl.blkAt {w : World} {T : TypeId} {k g off n c : Nat} {xs : List Value} (h : Sl w T k (.slice (some ⟨g, off, none⟩) n c) n xs) : ∃ cs, w.heap[g]? = some (.cells cs T (0, 0)) ∧ off + c * k ≤ cs.size := by
  rcases h.2 with ⟨e, _⟩ | ⟨g', off', cap, cs, e, hg, _, _, h3, _⟩
  · cases e
  · injection e with e1 _ e2
    injection e1 with e1
    injection e1 with e3 e4
    subst e3 e4 e2
    exact ⟨cs, hg, h3⟩
/-- What the three ways have in common. -/
structure RepIn (w : World) (g off n c i j m d : Nat) (V : Option Addr) (L X : List (Pc × Value)) : Prop where
  row : Sl w 73 3 (.slice (some ⟨g, off, none⟩) n c) n (rows pcC L)
  src : Sl w 73 3 (.slice V m d) m (rows pcC X)
  ne : ∀ b o, V = some ⟨b, o, none⟩ → b ≠ g
  hn : n = L.length
  hm : m = X.length
  ij : i < j
  jn : j < n
  nc : n ≤ c
  cm : c ≤ 9223372036854775807
  nb : n ≤ 1000000
  mb : m ≤ 1000000
  one : ∀ u ∈ rows pcC X, u.oneCell' = true
  oneL : ∀ u ∈ rows pcC L, u.oneCell' = true
section
variable {w w' : World} {L X : List (Pc × Value)} {g off n c i j m d : Nat} {V : Option Addr}
theorem RepIn.srcs (h : RepIn w g off n c i j m d V L X) : 0 < m → ∃ b o, V = some ⟨b, o, none⟩ ∧ ∀ q v, (rows pcC X)[q]? = some v → w.cell? ⟨b, o + q, none⟩ = some v := fun h0 => by
  obtain ⟨A', c', e, _, h2⟩ := h.src.rd
  injection e with e _ _
  obtain ⟨b, o, e3, h3⟩ := h2 h0
  exact ⟨b, o, e.trans e3, h3⟩
/-- What Replace leaves. -/
def RepRes (w : World) (g off n c i j m : Nat) (L X : List (Pc × Value)) (e : Ending) (w' : World) : Prop :=
  ∃ v', e = .returned v' ∧ Sl w' 73 3 v' (i + m + (n - j)) ((rows pcC L).take (i * 3) ++ rows pcC X ++ (rows pcC L).drop (j * 3)) ∧ Only (fun b => (Value.slice (some ⟨g, off, none⟩) n c).ownBlock = some b) w w' ∧ (v'.ownBlock = (Value.slice (some ⟨g, off, none⟩) n c).ownBlock ∨ v'.ownBlock = some w.heap.size)
set_option maxRecDepth 100000 in
set_option maxHeartbeats 16000000 in
theorem rep_fit (h : RepIn w g off n c i j m d V L X) (hu : i + m ≤ j) : Calls Try.prog 73 #[.slice (some ⟨g, off, none⟩) n c, .int .i64 (i : Int), .int .i64 (j : Int), .slice V m d] w (RepRes w g off n c i j m L X) := by
  have hij := h.ij
  have hjn := h.jn
  have hnc := h.nc
  have hcm := h.cm
  have hnb := h.nb
  have hmb := h.mb
  have hxl : (rows pcC L).length = n * 3 := h.row.1
  have hvl : (rows pcC X).length = m * 3 := h.src.1
  obtain ⟨u, hue⟩ : ∃ u, u = i + m := ⟨_, rfl⟩
  obtain ⟨t, hte⟩ : ∃ t, t = u + (n - j) := ⟨_, rfl⟩
  obtain ⟨w2, hc1, hs2, ho2⟩ := run_copy_slk (P := Try.prog) 67 67 0 73 Try.underlying67 size_pc h.row.drew i m (some ⟨g, off + i * 3, none⟩) V (t - i) (c - i) m d (rows pcC X) (by show m = min m (t - i); omega) hvl (by omega) (fun h0 => ⟨rfl, h.srcs h0⟩) h.one
  have hs2l : (splice (rows pcC L) (i * 3) (rows pcC X)).length = n * 3 := hs2.1
  have h1s : ∀ u ∈ splice (rows pcC L) (i * 3) (rows pcC X), u.oneCell' = true := by
    intro u hu
    unfold splice at hu
    rcases List.mem_append.1 hu with hu | hu
    · exact h.oneL u (List.mem_of_mem_take hu)
    · rcases List.mem_append.1 hu with hu | hu
      · exact h.one u hu
      · exact h.oneL u (List.mem_of_mem_drop hu)
  obtain ⟨w3, hc2, hs3, ho3⟩ := run_copy_slk (P := Try.prog) 67 67 0 73 Try.underlying67 size_pc hs2.drew u (n - j) (some ⟨g, off + u * 3, none⟩) (some ⟨g, off + j * 3, none⟩) (t - u) (c - u) (n - j) (c - j) ((splice (rows pcC L) (i * 3) (rows pcC X)).drop (j * 3)) (by show n - j = min (n - j) (t - u); omega) (by rw [List.length_drop, hs2l]; omega) (by omega) (fun h0 => ⟨rfl, _, _, rfl, hs2.drew.src j⟩) (fun v hv => h1s v (List.mem_of_mem_drop hv))
  have hc1' : ∀ ty, (Builtin.copy_ #[67, 67] ty #[.slice (some ⟨g, off + i * 3, none⟩) (t - i) (c - i), .slice V m d]).run Try.prog w.drew = .ok (goInt m) w2 := fun _ => hc1
  have hc2' : ∀ ty, (Builtin.copy_ #[67, 67] ty #[.slice (some ⟨g, off + u * 3, none⟩) (t - u) (c - u), .slice (some ⟨g, off + j * 3, none⟩) (n - j) (c - j)]).run Try.prog w2.drew = .ok (goInt (n - j : Nat)) w3 := fun _ => hc2
  have htn : t ≤ n := by omega
  have hue' : (i : Int) + (m : Int) = (u : Int) := by omega
  have wr1 : IntKind.i64.wrap ((i : Int) + (m : Int)) = (u : Int) := by rw [hue']; exact IntWalk.i64_in _ (by omega)
  have wr2 : IntKind.i64.wrap ((u : Int) + ((n - j : Nat) : Int)) = (t : Int) := by rw [show (u : Int) + ((n - j : Nat) : Int) = (t : Int) by omega]; exact IntWalk.i64_in _ (by omega)
  have a1 : (i : Int) ≤ (j : Int) := by omega
  have a2 : (j : Int) ≤ (n : Int) := by omega
  have a3 : (j : Int) ≤ (c : Int) := by omega
  have a4 : (i : Int) ≤ (c : Int) := by omega
  have a5 : ((i : Int) == (j : Int)) = false := by simp; omega
  have a6 : ((j : Int) == (n : Int)) = false := by simp; omega
  have a7 : decide ((c : Int) < (t : Int)) = false := by simp; omega
  have a8 : decide ((u : Int) ≤ (j : Int)) = true := by simp; omega
  have a9 : (t : Int) ≤ (n : Int) := by omega
  have a10 : (t : Int) ≤ (c : Int) := by omega
  have a11 : (u : Int) ≤ (t : Int) := by omega
  have a12 : (i : Int) ≤ (t : Int) := by omega
  have a13 : (u : Int) ≤ (j : Int) := by omega
  have b1 : ¬ c = i := by omega
  have b2 : ¬ i = c := by omega
  have b3 : ¬ c = j := by omega
  have b4 : ¬ j = c := by omega
  have b5 : ¬ c = u := by omega
  have b6 : ¬ u = c := by omega
  have b7 : ¬ (i : Int) = (j : Int) := by omega
  have b8 : ¬ (j : Int) = (n : Int) := by omega
  have b9 : ¬ i = j := by omega
  have b10 : ¬ j = n := by omega
  have hLF : ∀ qs : List Value, (splice (splice (splice (rows pcC L) (i * 3) (rows pcC X)) (u * 3) ((splice (rows pcC L) (i * 3) (rows pcC X)).drop (j * 3))) (t * 3) qs).take (t * 3) = (rows pcC L).take (i * 3) ++ rows pcC X ++ (rows pcC L).drop (j * 3) := fun qs =>
    lay_fit hxl (by omega) (by rw [hvl]; omega) (by omega) (by omega)
  have HLF := hide hLF
  have HT := hide (show t = i + m + (n - j) by omega)
  obtain ⟨w4, hcl, ⟨qs, hql, hs4⟩, ho4⟩ := run_clear_slk (P := Try.prog) (k := 3) (m := n - t) 67 73 0 (.agg #[.int .i64 0, .int .i64 0, .slice none 0 0]) Try.underlying67 zero_pc rfl (zeroCells_one pc_one _) hs3 t (c - t) (if c = t then some ⟨g, off, none⟩ else some ⟨g, off + t * 3, none⟩) (by omega) (fun h0 => if_neg (by omega))
  have hcl2 : ∀ ty, (Builtin.clear_ #[67] ty #[.slice (if c = t then some ⟨g, off, none⟩ else some ⟨g, off + t * 3, none⟩) (n - t) (c - t)]).run Try.prog w3 = .ok (.tuple #[]) w4 := fun _ => hcl
  have HE := hide (show RepRes w g off n c i j m L X (.returned (.slice (some ⟨g, off, none⟩) t c)) w4 from by
    refine ⟨_, rfl, ?_, ?_, .inl rfl⟩
    · have h4 := Sl.cut hs4 (m := t) htn
      rw [HLF.out, HT.out] at h4
      rw [HT.out]
      exact h4
    · exact ((((Only.refl (· = g) w).drew.trans ho2).drew.trans ho3).trans ho4).mono fun b _ e => by subst e; rfl)
  clear h hs2 hs3 hs4 ho2 ho3 ho4 hc1 hc2 hcl hql hLF hs2l h1s hxl hvl hue hte hue' hu hij hjn
  go_enter Try.func73, Try.ntmps73
  go_upto_region 9 with fail
  go_region
  go_upto_region 18 with fail
  go_region
  go_wp2
  all_goals
    go_ret
    have h9 := HE.out
    subst_vars
    exact h9
end
end Go.Proofs.Ytgiogmbopiblmaa
