/- The walk of VarsUndone: it returns true and leaves everything that was there as it was. No condition but those written. -/
import Derived.Test.YtempnakdpmmmoaaVgv
import Derived.Deep.RegionLaw
namespace Go.Proofs.Ytempnakdpmmmoaa
open Go.RowKit
attribute [local go_sem] neq_cells eql_cells

theorem info_act : (Try.prog.info? 47).map (fun i => (i.zero, i.size, i.bytes)) = some (some (.agg #[.int .i64 0, .int .i64 0, .int .i64 0, .int .i64 0, .int .i64 0]), 5, 40) := by kernel_rfl
theorem VH.ok {vb : Nat} {v : Vw} {H : Heap} (h : VH vb v H) : v.Ok := by
  obtain ⟨b, s, _, _, h1, rfl, _⟩ := h
  exact view_ok h1
/-- What was bound: the variable and the scope. -/
def bdc (x : Int × Int) : List Value := [.int .i64 0, .int .i64 x.1, .int .i64 x.2, .int .i64 0, .int .i64 0]
theorem bdc_len (x : Int × Int) : (bdc x).length = 5 := rfl
theorem bdc_one (x : Int × Int) : ∀ u ∈ bdc x, u.oneCell' = true := by
  intro u hu
  simp [bdc] at hu
  rcases hu with rfl | rfl | rfl | rfl | rfl <;> rfl
/-- The second loop: what holds behind k of its acts. -/
structure Lp (w1 wr : World) (vb : Nat) (u : Vw) (H : Heap) (A : Option Addr) (c m : Nat) (Bd : List (Int × Int)) (v : Vw) (N : List Nte) : Prop where
  n : m = Bd.length
  vz : VZ w1 wr vb v (rowOf 47 5 (.slice A m c) m (rows bdc Bd) ++ H)
  ok : RowOk (.slice A m c) m
  un : Unn u v N
  pl : ∀ x ∈ Bd, Plcd N (plcU u x.2 x.1) x.1
section
variable {w1 w w' : World} {vb : Nat} {u v v' : Vw} {H : Heap} {A : Option Addr} {c m : Nat} {Bd : List (Int × Int)} {N N' : List Nte}
theorem Lp.turn (h : Lp w1 w vb u H A c m Bd v N) (hv : VZ w1 w' vb v' (rowOf 47 5 (.slice A m c) m (rows bdc Bd) ++ H)) (hu : Unn u v' N') (hm : ∀ k n, Plcd N k n → Plcd N' k n) : Lp w1 w' vb u H A c m Bd v' N' := ⟨h.n, hv, h.ok, hu, fun x hx => hm _ _ (h.pl x hx)⟩
theorem Lp.sl (h : Lp w1 w vb u H A c m Bd v N) : Sl w 47 5 (.slice A m c) m (rows bdc Bd) := by
  obtain ⟨b, s, _, h2, _⟩ := h.vz.at_
  exact h2.own.slOf (fun x hx => List.mem_append_right _ (List.mem_append_left _ hx)) (by rw [h.n]; exact rows_len bdc_len _) h.ok
/-- One more is noted. -/
theorem Lp.noted (h : Lp w1 w vb u H A c m Bd v N) {x : Int × Int} (hx : Plcd N (plcU u x.2 x.1) x.1) {v2 : Value} (hs : Sl w' 47 5 v2 (m + 1) (rows bdc Bd ++ bdc x)) (ho : Only (fun b => (Value.slice A m c).ownBlock = some b) w w') (hv : v2.ownBlock = (Value.slice A m c).ownBlock ∨ v2.ownBlock = some w.heap.size) : ∃ A' c', v2 = .slice A' (m + 1) c' ∧ Lp w1 w' vb u H A' c' (m + 1) (Bd ++ [x]) v N := by
  obtain ⟨b, s, h1, h2, h3⟩ := h.vz.at_
  have ho1 := (h2.own.perm (show List.Perm _ (rowOf 47 5 (.slice A m c) m (rows bdc Bd) ++ (s.heap b ++ H)) from List.perm_append_comm_assoc _ _ _)).appended (n' := m + 1) (xs' := rows bdc (Bd ++ [x])) (by rw [rows_append, rows_one]; exact hs) ho hv
  have hk := hs.rowOk
  obtain ⟨A', c', rfl, _⟩ := hs.form
  refine ⟨A', c', rfl, by rw [List.length_append, h.n]; rfl, ⟨b, s, h1, h2.reR (ho1.perm (List.perm_append_comm_assoc _ _ _)), h3⟩, hk, h.un, fun y hy => ?_⟩
  rcases List.mem_append.1 hy with hy | hy
  · exact h.pl y hy
  · obtain rfl := List.mem_singleton.1 hy
    exact hx
end
theorem VZ.permR {W w : World} {vb : Nat} {v : Vw} {R R' : Heap} (h : VZ W w vb v R) (hp : R.Perm R') : VZ W w vb v R' := by
  obtain ⟨b, s, h1, h2, h3⟩ := h.at_
  exact ⟨b, s, h1, h2.perm hp, h3⟩
section
set_option maxRecDepth 100000 in
set_option maxHeartbeats 16000000 in
theorem undone_walk (A1 A2 : Option Addr) (n1 n2 c1 c2 : Nat) (l1 l2 : List Vac) (W : World) (e1 : n1 = l1.length) (e2 : n2 = l2.length) (r1 : Rd W (.slice A1 n1 c1) 5 n1 (rows Vac.cells l1)) (r2 : Rd W (.slice A2 n2 c2) 5 n2 (rows Vac.cells l2)) :
    Calls Try.prog 6 #[.slice A1 n1 c1, .slice A2 n2 c2] W fun e w' => e = .returned (.bool true) ∧ Below W.heap.size W w' := by
  have HL := hide (lives_any W)
  have HA1 := hide (fun k a (h : l1[k]? = some a) => act_cells e1 r1 h)
  have HA2 := hide (fun k a (h : l2[k]? = some a) => act_cells e2 r2 h)
  have HE1 := hide e1
  have HE2 := hide e2
  clear e1 e2 r1 r2
  go_enter Try.func6, Try.ntmps6
  go_wp2_with fail
  refine (Calls.mono (HL.out)) ?_
  rintro e w1 ⟨rfl, hb1⟩
  have HB1 := hide hb1
  clear hb1 HL
  by_cases h1 : 40 < n1
  · have hz1 : decide ((40 : Int) < (n1 : Int)) = true := by simp; omega
    go_wp2
    go_ret
    exact ⟨rfl, HB1.out⟩
  have hz1 : decide ((40 : Int) < (n1 : Int)) = false := by simp; omega
  by_cases h2 : 40 < n2
  · have hz2 : decide ((40 : Int) < (n2 : Int)) = true := by simp; omega
    go_wp2
    go_ret
    exact ⟨rfl, HB1.out⟩
  have hz2 : decide ((40 : Int) < (n2 : Int)) = false := by simp; omega
  have hm1 : n1 ≤ 40 := by omega
  have hm2 : n2 ≤ 40 := by omega
  clear h1 h2
  go_wp2_with fail
  refine (Calls.mono (vz_new w1)) ?_
  rintro r w2 ⟨vb, v0, rfl, hv0⟩
  have HV0 := hide hv0
  clear hv0
  go_wp2
  go_loopw [6] (fun i wr => ∃ (k : Nat) (v : Vw), k ≤ n1 ∧ i = .int .i64 (k : Int) ∧ VZ w1 wr vb v []) (fun i _ => n1 - (intOf i).toNat)
  case atStart => exact ⟨0, v0, Nat.zero_le _, rfl, HV0.out⟩
  case round =>
    obtain ⟨k, v, hk, rfl, hv⟩ := hrel
    by_cases hlt : k < n1
    · have hz : decide ((k : Int) < (n1 : Int)) = true := by simp; omega
      obtain ⟨a, ha⟩ : ∃ a, l1[k]? = some a := ⟨_, List.getElem?_eq_getElem (by have := HE1.out; omega)⟩
      obtain ⟨g, o, rfl, hc⟩ := HA1.out k a ha
      obtain ⟨p0, p1, p2, p3, p4⟩ := hc wr (HB1.out.trans (hv.bel.mono HB1.out.size))
      have HD := hide (do_any hv a)
      have HLT := hide hlt
      clear hv hc ha hk hlt
      go_wp2_with fail
      refine (Calls.mono HD.out) ?_
      rintro r w3 ⟨E, v', rfl, _, hV⟩
      have HV := hide hV
      clear hV HD
      go_wp2
      go_roundw
      case rel => exact ⟨k + 1, v', HLT.out, by go_num, HV.out⟩
      case measure => have := HLT.out; simp [intOf]; omega
    · have hz : decide ((k : Int) < (n1 : Int)) = false := by simp; omega
      obtain rfl : k = n1 := by omega
      obtain ⟨u, hu⟩ : ∃ u, u = v := ⟨_, rfl⟩
      rw [← hu] at hv
      have HV := hide hv
      clear hu hv hk hlt HV0
      obtain ⟨w4, rfl⟩ : ∃ x : World, x = wr := ⟨_, rfl⟩
      go_wp2_with fail
      refine (Calls.mono HV.out.copy) ?_
      rintro r w5 ⟨ob, H, rfl, hH, hv5⟩
      rw [List.append_nil] at hv5
      have HH := hide hH
      have HV5 := hide hv5
      have HDP := hide hv5.depth
      obtain ⟨D, hD⟩ : ∃ D, D = u.B.length := ⟨_, rfl⟩
      rw [← hD] at HDP
      have HDE := hide hD
      clear hH hv5 hD HV
      go_wp2_with fail
      refine (Calls.mono HDP.out) ?_
      rintro r w6 ⟨rfl, rfl⟩
      clear HDP
      have HL0 := hide (show Lp w1 w5 vb u H none 0 0 [] u [] from ⟨rfl, HV5.out, RowOk.nil, Unn.refl u, fun x hx => by cases hx⟩)
      go_wp2
      go_loopw [9, 10] (fun bd i wr => ∃ (k m : Nat) (A : Option Addr) (c : Nat) (Bd : List (Int × Int)) (v : Vw) (N : List Nte), k ≤ n2 ∧ m ≤ k ∧ i = .int .i64 (k : Int) ∧ bd = .slice A m c ∧ Lp w1 wr vb u H A c m Bd v N) (fun _ i _ => n2 - (intOf i).toNat)
      case atStart => exact ⟨0, 0, none, 0, [], u, [], Nat.zero_le _, Nat.le_refl _, rfl, rfl, HL0.out⟩
      case round =>
        obtain ⟨k, m, A, c, Bd, v, N, hk, hmk, rfl, rfl, hL⟩ := hrel
        by_cases hlt : k < n2
        · have hz : decide ((k : Int) < (n2 : Int)) = true := by simp; omega
          have hm9 : m ≤ 40 := by omega
          obtain ⟨a, ha⟩ : ∃ a, l2[k]? = some a := ⟨_, List.getElem?_eq_getElem (by have := HE2.out; omega)⟩
          obtain ⟨g, o, rfl, hc⟩ := HA2.out k a ha
          have HC := hide hc
          obtain ⟨p0, p1, p2, p3, p4⟩ := hc wr (HB1.out.trans (hL.vz.bel.mono HB1.out.size))
          have HLP := hide hL
          have HLT := hide hlt
          have HMK := hide hmk
          obtain ⟨p, hp⟩ : ∃ p, pickZ a.kd 14 = p := ⟨_, rfl⟩
          have HPK := fun w9 => pick_any a.kd 14 w9 (by omega) (by omega)
          rw [hp] at HPK
          have HPK := hide HPK
          have HP := hide hp
          clear hL hc ha hk hlt hmk hp HL0
          obtain ⟨w7, rfl⟩ : ∃ x : World, x = wr := ⟨_, rfl⟩
          go_wp2_with fail
          refine (Calls.mono (HPK.out _)) ?_
          rintro r w8 ⟨rfl, rfl⟩
          by_cases hp45 : p = 4 ∨ p = 5
          · obtain ⟨i0, hi, hz0, hz1', hz2'⟩ := info_parts info_act
            have HI := hide hi
            have HZ := hide hz0
            have HZ1 := hide hz1'
            have HZ2 := hide hz2'
            have HVd := hide (HLP.out.vz.below (Below.refl _ w7).drew)
            clear hi hz0 hz1' hz2'
            rcases hp45 with rfl | rfl
            all_goals
              go_wp2
              go_region_with (go_at_call 10; refine (Calls.mono (HVd.out.bind a.n a.wk a.wn)) ?_; rintro r w9 ⟨rfl, g1, g2, hV⟩; have HV9 := hide hV; obtain ⟨s0, s1, s2, s3, s4⟩ := HC.out w9 (HB1.out.trans (hV.bel.mono HB1.out.size)); clear hV)
              all_goals
                by_cases hE : v.bndE a.n = 0
                · have HE := hide hE
                  rw [hE]
                  have hvb := bnd_0 hE a.c g1 g2
                  have hv9 := HV9.out
                  rw [show (⟨a.wk, a.wn, true⟩ : Cel) = a.c from rfl, hvb] at hv9
                  have hsc := (hv9.below (Below.refl _ w9).drew).scope
                  rw [show ((v.put (v.plc a.n) a.n a.c).note ⟨v.now a.n, a.n, v.plc a.n, g1, g2⟩).S = v.S from by unfold Vw.put; split <;> rfl] at hsc
                  obtain ⟨S0, hS0⟩ : ∃ S0, S0 = v.S := ⟨_, rfl⟩
                  rw [← hS0] at hsc
                  have HSC := hide hsc
                  have hun := HLP.out.un.bind HLP.out.vz.ok a.n a.c g1 g2
                  have hlp := HLP.out.turn hv9 hun fun _ _ h => h.more _
                  have hpl : Plcd (N ++ [⟨v.now a.n, a.n, v.plc a.n, g1, g2⟩]) (plcU u S0 a.n) a.n := ⟨_, List.mem_append_right _ (List.mem_singleton.2 rfl), by rw [hS0]; exact HLP.out.un.plc a.n, rfl⟩
                  have hlp2 : Lp w1 (w9.drew.alloc (.cells #[.int .i64 0, .int .i64 a.n, .int .i64 S0, .int .i64 0, .int .i64 0] 47)) vb u H A c m Bd _ _ := hlp.turn (hlp.vz.below (((Below.refl _ w9).drew).alloc (by simp) (.cells #[.int .i64 0, .int .i64 a.n, .int .i64 S0, .int .i64 0, .int .i64 0] 47))) hlp.un fun _ _ h => h
                  have HSL := hide hlp2.sl
                  have HNX := hide (fun v2 w' hs ho hv => hlp2.noted (x := (a.n, S0)) hpl (v2 := v2) (w' := w') hs ho hv)
                  have hrd := rd_elem w9.drew 47 5 (bdc (a.n, S0)) rfl
                  have HRD := hide hrd
                  clear hE hvb hv9 hsc hS0 hun hlp hpl hlp2 hrd HVd
                  go_wp2
                  go_region_law
                    (first
                      | (go_simp; go_at_call 28; (with_reducible refine Calls.mono HSC.out ?_); rintro r w10 ⟨rfl, rfl⟩)
                      | (refine step_append_sl rfl (.tmp 74) (.tmp 83) 44 rfl 47 i0 _ 5 40 Try.underlying44 HI.out HZ.out HZ1.out HZ2.out rfl _ m (rows bdc Bd) rfl HSL.out _ rfl 1 _ HRD.out (bdc_one _) (by unfold maxLen; omega) (by omega) ?_; intro v2 w11 hs ho hv; obtain ⟨A', c', rfl, hL⟩ := HNX.out v2 w11 hs ho hv; have HN := hide hL; clear hs ho hv hL))
                  all_goals
                    go_wp2
                    go_roundw
                    case rel => exact ⟨k + 1, m + 1, A', c', _, _, _, HLT.out, by have := HMK.out; omega, by go_num, rfl, HN.out⟩
                    case measure => have := HLT.out; simp [intOf]; omega
                · have hv9 := HV9.out
                  rw [show (⟨a.wk, a.wn, true⟩ : Cel) = a.c from rfl, bnd_no hE] at hv9
                  have HN := hide (HLP.out.turn hv9 HLP.out.un fun _ _ h => h)
                  obtain ⟨E, hEE⟩ : ∃ E, E = v.bndE a.n := ⟨_, rfl⟩
                  rw [← hEE] at hE ⊢
                  have z1 : decide (E = 0) = false := by simpa using hE
                  have z2 : (E == 0) = false := by simpa using hE
                  clear hEE hv9 HV9
                  go_wp2
                  go_roundw
                  case rel => exact ⟨k + 1, m, A, c, Bd, v, N, HLT.out, by have := HMK.out; omega, by go_num, rfl, HN.out⟩
                  case measure => have := HLT.out; simp [intOf]; omega
          · by_cases hp7 : p = 7
            · subst hp7
              have HSS := hide (HLP.out.vz.setscope a.k)
              go_wp2_with fail
              refine (Calls.mono (HSS.out)) ?_
              rintro r w9 ⟨rfl, hV⟩
              have HN := hide (HLP.out.turn hV (HLP.out.un.ssc a.k) fun _ _ h => h)
              clear hV HSS
              go_wp2
              go_roundw
              case rel => exact ⟨k + 1, m, A, c, Bd, _, N, HLT.out, by have := HMK.out; omega, by go_num, rfl, HN.out⟩
              case measure => have := HLT.out; simp [intOf]; omega
            · by_cases hp01 : p = 0 ∨ p = 1
              · have HVq := hide (fun q => (HLP.out.vz.drewN q))
                obtain ⟨S0, hS0⟩ : ∃ S0, S0 = v.S := ⟨_, rfl⟩
                have HSC := hide (fun q d => (show Calls Try.prog 28 #[.pointer (some ⟨vb, 0, none⟩)] (w7.drewN (q + d)) fun e w' => e = .returned (.int .i64 S0) ∧ ∃ m, w' = w7.drewN (q + m) from by rw [hS0]; exact ((HLP.out.vz.drewN (q + d)).scope).mono fun _ _ h => ⟨h.1, d, h.2.symm⟩))
                have HS0 := hide hS0
                clear hS0
                rcases hp01 with rfl | rfl
                all_goals
                  go_wp2
                  go_loopw [11] (fun i wr => ∃ j q : Nat, j ≤ m ∧ i = .int .i64 (j : Int) ∧ wr = w7.drewN q) (fun i _ => m - (intOf i).toNat)
                  case atStart => exact ⟨0, 0, Nat.zero_le _, rfl, rfl⟩
                  case round =>
                    obtain ⟨j, q, hj, rfl, rfl⟩ := hrel
                    by_cases hlt : j < m
                    · have hz : decide ((j : Int) < (m : Int)) = true := by simp; omega
                      obtain ⟨x, hx⟩ : ∃ x, Bd[j]? = some x := ⟨_, List.getElem?_eq_getElem (by have := HLP.out.n; omega)⟩
                      have hsl := HLP.out.sl
                      have hmn := HLP.out.n
                      rw [hmn] at hsl
                      obtain ⟨g3, o3, d3, hv3, _, _, _, _, hc3⟩ := hsl.fld bdc_len (by omega)
                      rw [← hmn] at hv3
                      obtain ⟨rfl, rfl⟩ : A = some ⟨g3, o3, none⟩ ∧ c = d3 := by
                        injection hv3 with e1 _ e2
                        exact ⟨e1, e2⟩
                      have t0 : w7.cell? ⟨g3, o3 + j * 5, none⟩ = some (.int .i64 0) := hc3 j x 0 _ hx rfl
                      have t1 : w7.cell? ⟨g3, o3 + j * 5 + 1, none⟩ = some (.int .i64 x.1) := hc3 j x 1 _ hx rfl
                      have t2 : w7.cell? ⟨g3, o3 + j * 5 + 2, none⟩ = some (.int .i64 x.2) := hc3 j x 2 _ hx rfl
                      have t3 : w7.cell? ⟨g3, o3 + j * 5 + 3, none⟩ = some (.int .i64 0) := hc3 j x 3 _ hx rfl
                      have t4 : w7.cell? ⟨g3, o3 + j * 5 + 4, none⟩ = some (.int .i64 0) := hc3 j x 4 _ hx rfl
                      have HXM := hide (List.mem_of_getElem? hx)
                      have HLJ := hide hlt
                      clear hx hsl hmn hv3 hc3 hj hlt
                      by_cases hn : x.1 = a.n
                      · have y1 : decide (x.1 = a.n) = true := by simpa using hn
                        have HNN := hide hn
                        rw [hn] at t1
                        clear hn y1
                        by_cases hs : x.2 = S0
                        · have y2 : decide (x.2 = S0) = true := by simpa using hs
                          have HSS := hide hs
                          rw [hs] at t2
                          clear hs y2
                          go_wp2
                          go_quiet (exact HSC.out q _)
                          have HD := do_any (HLP.out.vz.drewN (q + nq)) a
                          rw [HP.out] at HD
                          have HD := hide HD
                          go_wp2_with fail
                          refine (Calls.mono HD.out) ?_
                          rintro r w9 ⟨E, v', rfl, hD, hV⟩
                          have HN := hide (show Lp w1 w9 vb u H (some ⟨g3, o3, none⟩) c m Bd v' N from HLP.out.turn hV (by
                            have hpl : Plcd N (plcU u v.S a.n) a.n := by
                              have h9 := HLP.out.pl x HXM.out
                              rw [HNN.out, HSS.out, HS0.out] at h9
                              exact h9
                            cases hD
                            exact HLP.out.un.set hpl _) fun _ _ h => h)
                          clear hD hV HD
                          go_wp2
                          go_roundw
                          case rel => exact ⟨k + 1, m, some ⟨g3, o3, none⟩, c, Bd, v', N, HLT.out, by have := HMK.out; omega, by go_num, rfl, HN.out⟩
                          case measure => have := HLT.out; simp [intOf]; omega
                        · have y2 : decide (x.2 = S0) = false := by simpa using hs
                          go_wp2
                          go_quiet (exact HSC.out q _)
                          go_wp2
                          go_roundw
                          case rel => exact ⟨j + 1, q + nq, HLJ.out, by go_num, rfl⟩
                          case measure => have := HLJ.out; simp [intOf]; omega
                      · have y1 : decide (x.1 = a.n) = false := by simpa using hn
                        go_wp2
                        go_quiet (exact HSC.out q _)
                        go_wp2
                        go_roundw
                        case rel => exact ⟨j + 1, q + nq, HLJ.out, by go_num, rfl⟩
                        case measure => have := HLJ.out; simp [intOf]; omega
                    · have hz : decide ((j : Int) < (m : Int)) = false := by simp; omega
                      obtain rfl : j = m := by omega
                      clear hj hlt
                      have HN := hide (HLP.out.turn (HLP.out.vz.drewN q) HLP.out.un fun _ _ h => h)
                      go_wp2
                      go_roundw
                      case rel => exact ⟨k + 1, j, A, c, Bd, v, N, HLT.out, by have := HMK.out; omega, by go_num, rfl, HN.out⟩
                      case measure => have := HLT.out; simp [intOf]; omega
              · have q0 : decide (p = 0) = false := by simpa using fun e => hp01 (.inl e)
                have q1 : decide (p = 1) = false := by simpa using fun e => hp01 (.inr e)
                have q4 : decide (p = 4) = false := by simpa using fun e => hp45 (.inl e)
                have q5 : decide (p = 5) = false := by simpa using fun e => hp45 (.inr e)
                have q7 : decide (p = 7) = false := by simpa using hp7
                have s0 : ¬ p = 0 := fun e => hp01 (.inl e)
                have s1 : ¬ p = 1 := fun e => hp01 (.inr e)
                have s4 : ¬ p = 4 := fun e => hp45 (.inl e)
                have s5 : ¬ p = 5 := fun e => hp45 (.inr e)
                clear hp01 hp45
                go_wp2
                go_roundw
                case rel => exact ⟨k + 1, m, A, c, Bd, v, N, HLT.out, by have := HMK.out; omega, by go_num, rfl, HLP.out⟩
                case measure => have := HLT.out; simp [intOf]; omega
        · have hz : decide ((k : Int) < (n2 : Int)) = false := by simp; omega
          obtain rfl : k = n2 := by omega
          have hun := hL.un
          have hok := hL.vz.ok
          have huo := HH.out.ok
          have hvz := hL.vz.sub (List.sublist_append_right _ _)
          rw [← List.append_nil H] at hvz
          have hue : v.unbE (D : Int) = 0 := by
            unfold Vw.unbE
            rw [if_pos ⟨by omega, by have := hun.len; have := HDE.out; omega⟩]
          obtain ⟨v1, hv1⟩ : ∃ v1, v1 = v.unbV (D : Int) := ⟨_, rfl⟩
          have hv1u : v1 = v.unb u.B.length := by
            rw [hv1]
            unfold Vw.unbV
            rw [if_pos hue, HDE.out, Int.toNat_natCast]
          have hdone : v1.scp u.S = u := by rw [hv1u]; exact hun.done
          have hB1 : v1.B = u.B ++ [] := by rw [List.append_nil]; have := congrArg Vw.B hdone; exact this
          have hsc : v1.ssc u.S = u := by
            unfold Vw.ssc
            rw [if_pos (show scpE u.S = 0 from if_pos (by have := huo.sc; unfold scpK; omega))]
            exact hdone
          have hse : scpE u.S = 0 := if_pos (by have := huo.sc; unfold scpK; omega)
          have HUB := hvz.unbind (D : Int)
          rw [hue, ← hv1] at HUB
          have HUB := hide HUB
          have HB1' := hide hB1
          have HSC1 := hide (And.intro hsc hse)
          have HVL := hide (valsV_len huo)
          clear hL hun hok huo hvz hue hv1 hv1u hdone hB1 hsc hse hk hmk hlt HL0
          obtain ⟨S0, hS0⟩ : ∃ S0, S0 = u.S := ⟨_, rfl⟩
          have HS0 := hide hS0
          clear hS0
          go_wp2_with fail
          refine (Calls.mono (HUB.out)) ?_
          rintro r w9 ⟨rfl, hV9⟩
          have HV9 := hide hV9
          obtain ⟨H2, hH2, hF⟩ := hV9.flip HH.out HB1'.out
          have HSS := hF.scope
          rw [← HS0.out] at HSS
          have HSS := hide HSS
          have HST := HV9.out.setscope u.S
          rw [HSC1.out.2, HSC1.out.1, ← HS0.out] at HST
          have HST := hide HST
          clear hV9 hH2 hF HUB
          go_wp2_with fail
          refine (Calls.mono (HSS.out)) ?_
          rintro r w10 ⟨rfl, rfl⟩
          go_wp2_with fail
          refine (Calls.mono (HST.out)) ?_
          rintro r w11 ⟨rfl, hV11⟩
          have HV11 := hide hV11
          have HDP := hV11.depth
          rw [← HDE.out] at HDP
          have HDP := hide HDP
          clear hV11 HST HSS
          go_wp2_with fail
          refine (Calls.mono (HDP.out)) ?_
          rintro r w12 ⟨rfl, rfl⟩
          go_wp2_with fail
          refine (Calls.mono (HV11.out.values)) ?_
          rintro r w13 ⟨x1, rfl, hs1, hf1, hb1⟩
          have HV13 := hide (HV11.out.below hb1)
          obtain ⟨H3, hH3, hF3⟩ := HV13.out.flip HH.out (List.append_nil _).symm
          have HW := hide hF3.values
          have HS1 := hide hs1
          obtain ⟨X1, d1, rfl, _⟩ := hs1.form
          clear hs1 hf1 hb1 hH3 hF3 HDP HV11
          obtain ⟨nv, hnv⟩ : ∃ nv, nv = (valsV u).length := ⟨_, rfl⟩
          rw [← hnv] at HS1 HW ⊢
          have HNV := hide hnv
          clear hnv
          go_wp2_with fail
          refine (Calls.mono (HW.out)) ?_
          rintro r w14 ⟨x2, rfl, hs2, hf2, hb2⟩
          have HV14 := hide (HV13.out.below hb2)
          have hr1 := HS1.out.rd.only (Only.of_below (F := fun _ => False) hb2) fun _ _ f => f
          have hr2 := hs2.rd
          obtain ⟨X2, d2, rfl, _⟩ := hs2.form
          have HSM := same_wrd (valsV u) (.slice X1 nv d1) (.slice X2 nv d2) w14 (by rw [← HNV.out]; exact hr1) (by rw [← HNV.out]; exact hr2) HVL.out
          have HSM := hide HSM
          clear hs2 hf2 hb2 hr1 hr2 HW HS1 HV13
          go_wp2_with fail
          refine (Calls.mono (HSM.out)) ?_
          rintro r w15 ⟨rfl, q15, rfl⟩
          have HV15 := hide (HV14.out.drewN q15)
          clear HSM HV14
          obtain ⟨w16, hw16⟩ : ∃ w16, w16 = w14.drewN q15 := ⟨_, rfl⟩
          rw [← hw16] at HV15 ⊢
          clear hw16
          go_wp2
          go_loopw [12] (fun i wr => ∃ (j : Nat) (H : Heap), j ≤ k ∧ i = .int .i64 (j : Int) ∧ VH ob u H ∧ VZ w1 wr vb u (H ++ [])) (fun i _ => k - (intOf i).toNat)
          case atStart => exact ⟨0, H, Nat.zero_le _, rfl, HH.out, HV15.out⟩
          case round =>
            obtain ⟨j, H4, hj, rfl, hH4, hV4⟩ := hrel
            by_cases hlt : j < k
            · have hz9 : decide ((j : Int) < (k : Int)) = true := by simp; omega
              obtain ⟨a, ha⟩ : ∃ a, l2[j]? = some a := ⟨_, List.getElem?_eq_getElem (by have := HE2.out; omega)⟩
              obtain ⟨g, o, rfl, hc⟩ := HA2.out j a ha
              have HC := hide hc
              obtain ⟨p0, p1, p2, p3, p4⟩ := hc wr (HB1.out.trans (hV4.bel.mono HB1.out.size))
              have HG := hV4.get a.n
              obtain ⟨cc, hcc⟩ : ∃ cc, cc = u.now a.n := ⟨_, rfl⟩
              rw [← hcc] at HG
              have HG := hide HG
              have HCC := hide hcc
              have HH4 := hide hH4
              have HLJ := hide hlt
              clear hH4 hV4 hc ha hj hlt hcc
              obtain ⟨w17, rfl⟩ : ∃ x : World, x = wr := ⟨_, rfl⟩
              go_wp2_with fail
              refine (Calls.mono (HG.out)) ?_
              rintro r w18 ⟨rfl, hV18⟩
              have hV19 := hV18.box 29 #[.int .i64 cc.k, .int .i64 cc.n]
              obtain ⟨t0, t1, t2, t3, t4⟩ := HC.out _ (HB1.out.trans (hV19.bel.mono HB1.out.size))
              have hV20 := hV19.permR (show List.Perm _ (H4 ++ [(w18.heap.size, .cells 29 #[.int .i64 cc.k, .int .i64 cc.n])]) from by rw [List.append_nil]; exact (List.perm_append_comm (l₁ := H4) (l₂ := [_])).symm)
              obtain ⟨H5, hH5, hF5⟩ := hV20.flip HH4.out (List.append_nil _).symm
              have HG2 := hF5.get a.n
              rw [← HCC.out] at HG2
              have HG2 := hide HG2
              have HH5 := hide hH5
              clear hV18 hV19 hV20 hH5 hF5 HG
              go_wp2_with fail
              refine (Calls.mono (HG2.out)) ?_
              rintro r w21 ⟨rfl, hV21⟩
              obtain ⟨H6, hH6, hV22⟩ := hV21.flop HH5.out (List.append_nil _).symm
              have hV23 := hV22.box 29 #[.int .i64 cc.k, .int .i64 cc.n]
              have b1 := hV23.blk (g := w18.heap.size) (t := 29) (cs := #[.int .i64 cc.k, .int .i64 cc.n]) (by simp)
              have b2 := hV23.blk (g := w21.heap.size) (t := 29) (cs := #[.int .i64 cc.k, .int .i64 cc.n]) (by simp)
              have m0 := b1.cell 0
              have m1 := b1.cell 1
              have m2 := b2.cell 0
              have m3 := b2.cell 1
              have HN := hide (And.intro hH6 (hV23.permR (R' := (H6 ++ []) ++ [(w21.heap.size, .cells 29 #[.int .i64 cc.k, .int .i64 cc.n]), (w18.heap.size, .cells 29 #[.int .i64 cc.k, .int .i64 cc.n])]) (by
                refine List.Perm.trans ?_ (List.perm_append_comm)
                rw [List.append_nil]
                exact List.Perm.cons _ List.perm_append_comm)))
              clear hH6 hV21 hV22 hV23 b1 b2 HG2
              have nb : (cc.b != cc.b) = false := by simp
              go_wp2
              go_roundw
              case rel => exact ⟨j + 1, H6, HLJ.out, by go_num, HN.out.1, HN.out.2.sub (List.sublist_append_left _ _)⟩
              case measure => have := HLJ.out; simp [intOf]; omega
            · have hz9 : decide ((j : Int) < (k : Int)) = false := by simp; omega
              obtain rfl : j = k := by omega
              have HB := hide (HB1.out.trans (hV4.bel.mono HB1.out.size))
              clear hj hlt hH4 hV4
              go_wp2
              go_ret
              exact ⟨rfl, HB.out⟩
end
end Go.Proofs.Ytempnakdpmmmoaa
