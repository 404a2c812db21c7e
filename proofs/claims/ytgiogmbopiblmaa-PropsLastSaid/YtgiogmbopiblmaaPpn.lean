/- slices.Replace at pieces: nothing there yet; up to the end. No condition but those written. -/
import Derived.Test.YtgiogmbopiblmaaPpm
namespace Go.Proofs.Ytgiogmbopiblmaa
open Go.RowKit

section
variable {w w' : World} {sv vv v' : Value} {L X : List (Pc × Value)} {i j : Nat}
set_option maxRecDepth 100000 in
set_option maxHeartbeats 4000000 in
theorem ins0_any (h : PcsAt w sv []) (hx : PcsAt w vv X) (hX : X.length ≤ 1000000) : Calls Try.prog 85 #[sv, .int .i64 0, vv] w (PcsRes w sv (pcs X)) := by
  obtain ⟨i0, hi, hz0, hz1, hz2⟩ := info_parts info_pc
  obtain ⟨B, c, rfl, _, hcm⟩ := h.row.form
  obtain ⟨V, d, rfl, _, _⟩ := hx.row.form
  unfold maxLen at hcm
  obtain ⟨m, hm⟩ : ∃ m, m = X.length := ⟨_, rfl⟩
  have HH := hide h
  have HX := hide hx
  rw [← hm] at HX hX ⊢
  have hX2 : (m : Int) ≤ 1000000 := by omega
  have HM := hide hm
  simp only [List.length_nil] at HH hcm ⊢
  have hS := hide (show Sl w 73 3 (.slice B 0 c) 0 [] from h.row)
  have hRX := hide (show Rd w (.slice V m d) 3 m (rows pcC X) from by rw [hm]; exact hx.row.rd)
  have hone := hide hx.one
  clear h hx hm
  by_cases h0 : m = 0
  · subst h0
    obtain rfl : X = [] := List.eq_nil_of_length_eq_zero HM.out.symm
    go_enter Try.func85, Try.ntmps85
    go_wp2
    all_goals (go_ret; exact ⟨_, [], rfl, HH.out, rfl, Only.refl _ _, .inl rfl⟩)
  · have z0 : ((m : Int) == 0) = false := by simp; omega
    have z1 : ¬ (m : Int) = 0 := by omega
    go_enter Try.func85, Try.ntmps85
    go_wp2_with (at_builtin; refine wpList_append_sl rfl (.tmp 23) (.tmp 24) 67 rfl 73 i0 (.agg #[.int .i64 0, .int .i64 0, .slice none 0 0]) 3 40 Try.underlying67 hi hz0 hz1 hz2 rfl _ 0 [] rfl hS.out _ rfl m (rows pcC X) hRX.out hone.out ?b1 ?b2 ?_)
    case b1 => unfold maxLen; omega
    case b2 => omega
    intro v2 w2 hs2 ho2 hv2
    have HF := hide (show PcsRes w (.slice B 0 c) (pcs X) (.returned v2) w2 from ⟨v2, X, rfl, HH.out.turn (by rw [← HM.out]; simpa using hs2) ho2 fun p hp => HX.out.inn p hp, rfl, ho2, hv2.imp id fun e => ⟨_, e, Nat.le_refl _⟩⟩)
    clear hs2 ho2 hv2
    go_wp2
    go_ret
    exact HF.out
set_option maxRecDepth 100000 in
set_option maxHeartbeats 8000000 in
theorem rep_ins (h : PcsAt w sv []) (hx : PcsAt w vv X) (hX : X.length ≤ 1000000) : Calls Try.prog 73 #[sv, .int .i64 0, .int .i64 0, vv] w (PcsRes w sv (pcs X)) := by
  have HI := hide (ins0_any h hx hX)
  obtain ⟨B, c, rfl, _, hcm⟩ := h.row.form
  unfold maxLen at hcm
  simp only [List.length_nil] at HI hcm ⊢
  clear h
  go_enter Try.func73, Try.ntmps73
  go_wp2_with (go_at_call 85; (with_reducible refine Calls.mono HI.out ?_); rintro r w2 ⟨v2, L2, rfl, h2⟩; have H2 := hide h2; clear h2)
  go_ret
  exact ⟨v2, L2, rfl, H2.out⟩
set_option maxRecDepth 100000 in
set_option maxHeartbeats 16000000 in
theorem rep_end (h : PcsAt w sv L) (hx : PcsAt w vv X) (hne : ∀ g, sv.ownBlock = some g → ¬ vv.ownBlock = some g) (i : Nat) (hi : i < L.length) (hL : L.length ≤ 1000000) (hX : X.length ≤ 1000000) : Calls Try.prog 73 #[sv, .int .i64 (i : Int), .int .i64 (L.length : Int), vv] w (PcsRes w sv ((pcs L).take i ++ pcs X)) := by
  obtain ⟨i0, hi0, hz0, hz1, hz2⟩ := info_parts info_pc
  obtain ⟨B, c, rfl, hnc, hcm⟩ := h.row.form
  obtain ⟨V, d, rfl, _, _⟩ := hx.row.form
  unfold maxLen at hcm
  obtain ⟨g, off, rfl⟩ : ∃ g off, B = some ⟨g, off, none⟩ := by
    obtain ⟨g, off, _, e1, _⟩ := h.row.at_ (by omega)
    injection e1 with e1 _ _
    exact ⟨g, off, e1⟩
  have hrow := h.row
  have hxl := hrow.1
  have HH := hide h
  have HX := hide hx
  obtain ⟨m, hm⟩ : ∃ m, m = X.length := ⟨_, rfl⟩
  obtain ⟨n, hn⟩ : ∃ n, n = L.length := ⟨_, rfl⟩
  have hRX := hx.row.rd
  have hvl := hx.row.1
  have HM := hide hm
  have HN := hide hn
  have hone := hx.one
  rw [← hn] at HH hrow hnc hi hL hxl ⊢
  rw [← hm] at HX hX hRX hvl ⊢
  have HFIN := hide (fun (w' : World) (v' : Value) (hs : Sl w' 73 3 v' (i + m) ((rows pcC L).take (i * 3) ++ rows pcC X)) (ho : Only (fun b => (Value.slice (some ⟨g, off, none⟩) n c).ownBlock = some b) w w') =>
    show PcsAt w' v' (L.take i ++ X) from by
      have h1 := PcsAt.replaced (h := by rw [hn] at HH; exact HH.out) hx (i := i) (j := n) (Nat.le_of_lt hi) (Nat.le_of_eq hn) (N := i + m) (by omega) (v' := v') (w' := w') (by rw [List.drop_eq_nil_of_le (by rw [hxl]; exact Nat.le_refl _), List.append_nil]; exact hs) (by rw [← hn]; exact ho)
      rw [List.drop_eq_nil_of_le (by omega), List.append_nil] at h1
      exact h1)
  have HPC := hide (show pcs (L.take i ++ X) = (pcs L).take i ++ pcs X from by simp [pcs])
  have y1 : (i : Int) ≤ (n : Int) := by omega
  have y2 : (n : Int) ≤ (c : Int) := by omega
  have y3 : ((i : Int) == (n : Int)) = false := by simp; omega
  have y4 : ¬ (i : Int) = (n : Int) := by omega
  have y5 : ¬ i = n := by omega
  have y6 : (i : Int) ≤ (c : Int) := by omega
  have y7 : ¬ c = i := by omega
  have y8 : ¬ i = c := by omega
  have yim : (i : Int) + (m : Int) ≤ 2000000 := by omega
  have hsrc : 0 < m → ∃ b o, V = some ⟨b, o, none⟩ ∧ ∀ q v, (rows pcC X)[q]? = some v → w.cell? ⟨b, o + q, none⟩ = some v := fun h0 => by
    obtain ⟨A', c', e, _, h2⟩ := hRX
    injection e with e _ _
    obtain ⟨b, o, e3, h3⟩ := h2 h0
    exact ⟨b, o, e.trans e3, h3⟩
  by_cases hfit : i + m ≤ n
  · obtain ⟨w2, hap, hs2, ho2⟩ := run_append_in (P := Try.prog) 67 0 73 i0 Try.underlying67 hi0 hz1 hrow i m d (rows pcC X) V hvl hfit hsrc hone
    have hap2 : ∀ ty, (Builtin.append_ #[67, 67] ty #[.slice (some ⟨g, off, none⟩) i c, .slice V m d]).run Try.prog w = .ok (.slice (some ⟨g, off, none⟩) (i + m) c) w2 := fun _ => hap
    obtain ⟨u, hu⟩ : ∃ u, u = i + m := ⟨_, rfl⟩
    have hu2 : (i : Int) + (m : Int) = (u : Int) := by omega
    rw [← hu] at hap2 HFIN hfit
    have HS2 := hide hs2
    have HO2 := hide ho2
    by_cases hun : u < n
    · have z1 : decide (u < n) = true := by simpa using hun
      have z2 : decide ((u : Int) < (n : Int)) = true := by simp; omega
      have z3 : (u : Int) < (n : Int) := by omega
      have z4 : ¬ c = u := by omega
      have z5 : ¬ u = c := by omega
      have z6 : (u : Int) ≤ (n : Int) := by omega
      obtain ⟨w3, hcl, ⟨qs, hql, hs3⟩, ho3⟩ := run_clear_slk (P := Try.prog) (k := 3) (m := n - u) 67 73 0 (.agg #[.int .i64 0, .int .i64 0, .slice none 0 0]) Try.underlying67 zero_pc rfl (zeroCells_one pc_one _) hs2 u (c - u) (some ⟨g, off + u * 3, none⟩) (by omega) (fun _ => rfl)
      have hcl2 : ∀ ty, (Builtin.clear_ #[67] ty #[.slice (some ⟨g, off + u * 3, none⟩) (n - u) (c - u)]).run Try.prog w2 = .ok (.tuple #[]) w3 := fun _ => hcl
      have HE := hide (show PcsAt w3 (.slice (some ⟨g, off, none⟩) u c) (L.take i ++ X) from by
        refine HFIN.out w3 _ ?_ ((ho2.trans ho3).mono fun b _ e => by subst e; rfl)
        have h4 := Sl.cut hs3 (m := u) (Nat.le_of_lt hun)
        rw [lay_end (n := n * 3) hxl (by rw [hvl, hu, Nat.add_mul]) (Nat.mul_le_mul_right 3 (Nat.le_of_lt hun))] at h4
        exact h4)
      have HOO := hide (show Only (fun b => (Value.slice (some ⟨g, off, none⟩) n c).ownBlock = some b) w w3 from (ho2.trans ho3).mono fun b _ e => by subst e; rfl)
      clear h hx hrow hs2 ho2 hap hcl hs3 ho3 hun hfit hu hn hm hnc hone hRX hvl hxl hne hql
      go_enter Try.func73, Try.ntmps73
      go_wp2_with (at_builtin; refine Lib.wpList_append_run _ rfl (.tmp 32) (.tmp 33) _ _ rfl _ _ rfl rfl _ _ (hap2 _) ?_)
      go_ret
      exact ⟨_, _, rfl, HE.out, HPC.out, HOO.out, .inl rfl⟩
    · obtain rfl : u = n := by omega
      have z1 : decide (u < u) = false := by simp
      have z2 : decide ((u : Int) < (u : Int)) = false := by simp
      have HE := hide (show PcsAt w2 (.slice (some ⟨g, off, none⟩) u c) (L.take i ++ X) from by
        refine HFIN.out w2 _ ?_ (ho2.mono fun b _ e => by subst e; rfl)
        rw [show (rows pcC L).take (i * 3) ++ rows pcC X = splice (rows pcC L) (i * 3) (rows pcC X) from (splice_end _ _ _ (by rw [hvl, hxl, hu, Nat.add_mul])).symm]
        exact hs2)
      have HOO := hide (show Only (fun b => (Value.slice (some ⟨g, off, none⟩) u c).ownBlock = some b) w w2 from ho2.mono fun b _ e => by subst e; rfl)
      clear h hx hrow hs2 ho2 hap hun hfit hu hn hm hnc hone hRX hvl hxl hne
      go_enter Try.func73, Try.ntmps73
      go_wp2_with (at_builtin; refine Lib.wpList_append_run _ rfl (.tmp 32) (.tmp 33) _ _ rfl _ _ rfl rfl _ _ (hap2 _) ?_)
      go_ret
      exact ⟨_, _, rfl, HE.out, HPC.out, HOO.out, .inl rfl⟩
  · have hS := hide (Sl.cut hrow (m := i) (Nat.le_of_lt hi))
    have z1 : decide (i + m < n) = false := by simp; omega
    have z2 : decide ((i : Int) + (m : Int) < (n : Int)) = false := by simp; omega
    have z3 : ¬ (i : Int) + (m : Int) < (n : Int) := by omega
    have hRX2 := hide hRX
    have hone2 := hide hone
    have HL := hide hL
    clear h hx hrow hfit hn hm hnc hone hRX hvl hxl hne hsrc
    go_enter Try.func73, Try.ntmps73
    go_wp2_with (at_builtin; refine wpList_append_sl rfl (.tmp 32) (.tmp 33) 67 rfl 73 i0 (.agg #[.int .i64 0, .int .i64 0, .slice none 0 0]) 3 40 Try.underlying67 hi0 hz0 hz1 hz2 rfl _ i ((rows pcC L).take (i * 3)) rfl hS.out _ rfl m (rows pcC X) hRX2.out hone2.out ?b1 ?b2 ?_)
    case b1 => unfold maxLen; omega
    case b2 => omega
    intro v2 w2 hs2 ho2 hv2
    obtain ⟨A2, c2, rfl, _⟩ := hs2.form
    have HE := hide (HFIN.out w2 _ hs2 ho2)
    have HOO := hide ho2
    have HV := hide hv2
    clear hs2 ho2 hv2
    go_wp2
    go_ret
    exact ⟨_, _, rfl, HE.out, HPC.out, HOO.out, HV.out.imp id fun e => ⟨_, e, Nat.le_refl _⟩⟩
end
end Go.Proofs.Ytgiogmbopiblmaa
