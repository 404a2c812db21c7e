/- BuffersOrder: the walk. No condition but those written. -/
import Derived.Test.YtnbhejbpofjamaaGreatDoorBna
namespace Go.Proofs.YtnbhejbpofjamaaGreatDoor
open Go.RowKit

theorem Rd.cutI {w : World} {A : Option Addr} {n c m : Nat} {l : List Nat} (h : Rd w (.slice A n c) 1 n (ints l)) (hm : m ≤ n) : Rd w (.slice A m c) 1 m (ints (l.take m)) := by
  obtain ⟨A', c', e, hl, hc⟩ := h
  injection e with e1 _ e3
  subst e1 e3
  refine ⟨A, c, rfl, by simp [ints] at hl ⊢; omega, fun hp => ?_⟩
  obtain ⟨b, off, rfl, hx⟩ := hc (by omega)
  refine ⟨b, off, rfl, fun j u hu => hx j u ?_⟩
  simp only [ints, List.getElem?_map, List.getElem?_take] at hu ⊢
  split at hu
  · exact hu
  · simp at hu
def seenP (l : List Nat) : List (Value × Value) := l.map fun i : Nat => (.int .i64 (i : Int), .bool true)
theorem seen_keys (l : List Nat) : KeysOf (.int .i64) (seenP l) := fun x hx => by
  obtain ⟨e, _, rfl⟩ := List.mem_map.1 hx
  exact .int _ _
theorem seen_get {l : List Nat} {i : Nat} (h : i ∉ l) : mget (seenP l) (.int .i64 (i : Int)) = none := by
  unfold mget seenP
  rw [List.find?_map, List.find?_eq_none.2]
  · rfl
  · intro x hx
    simp only [Function.comp, keyEq_int]
    have : i ≠ x := fun e => h (e ▸ hx)
    simp
    omega
theorem seen_put : ∀ {l : List Nat} {i : Nat}, i ∉ l → mput (seenP l) (.int .i64 (i : Int)) (.bool true) = seenP (l ++ [i])
  | [], _, _ => rfl
  | x :: l, i, h => by
    have ih := seen_put (l := l) (i := i) fun hm => h (List.mem_cons_of_mem _ hm)
    have hne : (((i : Int)) == (x : Int)) = false := by
      have : i ≠ x := fun e => h (e ▸ List.mem_cons_self ..)
      simp; omega
    simp only [seenP] at ih
    simp only [seenP, List.map_cons, mput, keyEq_int, hne, List.cons_append]
    rw [ih]
    simp
theorem zero_bool (w : World) : (zeroValue 4).run Tryz.prog w = .ok (.bool false) w := by kernel_rfl
theorem make_seen (w : World) : (Instr.makeMap 47 none).run Tryz.prog w = .ok (.map (some w.heap.size)) (w.alloc (.map #[] 0)) := by kernel_rfl
theorem take_not {l : List Nat} (hn : l.Nodup) {j i : Nat} (h : l[j]? = some i) : i ∉ l.take j := by
  intro hm
  obtain ⟨hj, e⟩ := List.getElem?_eq_some_iff.1 h
  have e2 : l.take j ++ i :: l.drop (j + 1) = l := by
    rw [← e, ← List.drop_eq_getElem_cons hj, List.take_append_drop]
  rw [← e2, List.nodup_append] at hn
  exact hn.2.2 i hm i (List.mem_cons_self ..) rfl
theorem take_snoc {l : List Nat} {j i : Nat} (h : l[j]? = some i) : l.take (j + 1) = l.take j ++ [i] := by
  rw [List.take_add_one, h]
  rfl
theorem do_known {s : Bst} {tx : Nat → Bz} {a : Ab} (ok : s.Ok) (h : doE s tx a = 0) (hp : a.p = 2 ∨ a.p = 5 ∨ a.p = 6 ∨ a.p = 7) : ∃ j : Nat, a.id = (j : Int) := by
  unfold doE at h
  rw [if_neg (by omega)] at h
  have hk : knownE s.all a.id = 0 := by
    split at h
    · unfold kilE at h
      split at h
      · rename_i h8; exact absurd h h8
      · rename_i h8; omega
    · rw [if_neg (by omega), if_neg (by omega)] at h
      exact h
  obtain ⟨j, hj, _⟩ := known_nat ok hk
  exact ⟨j, hj⟩
def flt (F : List Nat) (i : Int) : List Nat := F.filter fun y : Nat => decide ((y : Int) ≠ i)
theorem flt_snoc {F : List Nat} {j f : Nat} (i : Int) (h : F[j]? = some f) : flt (F.take (j + 1)) i = if (f : Int) ≠ i then flt (F.take j) i ++ [f] else flt (F.take j) i := by
  unfold flt
  rw [take_snoc h, List.filter_append]
  by_cases e : (f : Int) = i
  · rw [if_neg (by simpa using e)]
    simp [e]
  · rw [if_pos e]
    simp [e]
set_option maxRecDepth 100000 in
set_option maxHeartbeats 16000000 in
theorem order_walk (l : List Ab) (A : Option Addr) (c : Nat) (W : World) (hrd : Rd W (.slice A l.length c) 3 l.length (rows Ab.cells l)) (hm : l.length ≤ maxLen) (hR : Rules W) (hP : Pow W) :
    Calls Tryz.prog 4 #[.slice A l.length c] W fun e w' => e = .returned (.bool true) ∧ Below W.heap.size W w' := by
  have HLV := hide (lives_any W hR.tabs hP)
  have HLI := hide (fun w1 (hb : Below W.heap.size W w1) => light_any l (.slice A l.length c) w1 (hrd.belowN hb) hm)
  have HRD := hide hrd
  have HR := hide hR
  obtain ⟨nn, hnn⟩ : ∃ nn, nn = l.length := ⟨_, rfl⟩
  rw [← hnn] at HRD HLI ⊢
  have HNN := hide hnn
  have hl2 : (nn : Int) ≤ 9223372036854775807 := by unfold maxLen at hm; omega
  clear hrd hm hR hP hnn
  cases hli : lightB l with
  | false =>
    rw [hli] at HLI
    clear hli
    go_enter Tryz.func4, Tryz.ntmps4
    go_wp2_with fail
    refine Calls.mono HLV.out ?_
    rintro e w0 ⟨rfl, b0⟩
    have HB0 := hide b0
    clear b0
    go_wp2_with fail
    refine Calls.mono (HLI.out _ HB0.out) ?_
    rintro e w1 ⟨rfl, rfl⟩
    go_wp2_with fail
    go_ret
    exact ⟨rfl, HB0.out⟩
  | true =>
    have HLL := hide (lightB_iff.1 hli)
    rw [hli] at HLI
    clear hli
    have hn60 : (nn : Int) ≤ 60 := by have := HLL.out.2; have := HNN.out; omega
    clear hl2
    go_enter Tryz.func4, Tryz.ntmps4
    go_wp2_with fail
    refine Calls.mono HLV.out ?_
    rintro e w0 ⟨rfl, b0⟩
    have HB0 := hide b0
    clear b0 HLV
    go_wp2_with fail
    refine Calls.mono (HLI.out _ HB0.out) ?_
    rintro e w1 ⟨rfl, rfl⟩
    clear HLI
    go_wp2_with fail
    refine Calls.mono (lz_new (Own.refl w0) (HR.out.tabs.below HB0.out)) ?_
    rintro e w1 ⟨sb, g0, b0, rfl, h1⟩
    have H1 := hide h1
    have HR0 := hide (HR.out.below HB0.out)
    clear h1
    go_wp2_with fail
    go_loopw [4, 5, 6] (fun nx fv iv wr => ∃ (k : Nat) (s : Bst) (tx : Nat → Bz) (F : List Nat) (B : Option Addr) (d : Nat) (nxt m1 : Nat), k ≤ nn ∧ iv = .int .i64 (k : Int) ∧ nx = .int .i64 (nxt : Int) ∧ nxt = s.next ∧ fv = .slice B m1 d ∧ m1 = F.length ∧ RowOk (.slice B m1 d) m1 ∧ F <+: s.order ∧ LZ w0 wr sb s tx k (rowOf 3 1 (.slice B m1 d) m1 (ints F))) (fun _ _ iv _ => nn - (intOf iv).toNat)
    case atStart => exact ⟨0, _, _, [], none, 0, 1, 0, Nat.zero_le _, rfl, rfl, rfl, rfl, rfl, RowOk.nil, List.nil_prefix, H1.out⟩
    case round =>
      obtain ⟨k, s, tx, F, B, d, nxt, m1, hk, rfl, rfl, hnxt, rfl, hm1, hrow, hpre, hz⟩ := hrel
      have HZ := hide hz
      have HK := hide hk
      have HNX := hide hnxt
      have HM1 := hide hm1
      have HROW := hide hrow
      have HPRE := hide hpre
      have hnx2 : (nxt : Int) ≤ 61 := by have := hz.nx; omega
      clear hz hrow hpre hnxt hm1
      by_cases hlt : k < nn
      · have y1 : decide (k < nn) = true := by simpa using hlt
        have y2 : decide ((k : Int) < (nn : Int)) = true := by simp; omega
        have y3 : (k : Int) < (nn : Int) := by omega
        obtain ⟨a, ha⟩ : ∃ a, l[k]? = some a := ⟨_, List.getElem?_eq_getElem (by rw [← HNN.out]; exact hlt)⟩
        have HLT := hide hlt
        have HA := hide ha
        obtain ⟨g, off, rfl⟩ := Rd.some_ HRD.out (by omega)
        have HCA := hide (fun (w' : World) (hb : Below w0.heap.size w0 w') => (show w'.cell? ⟨g, off + k * 3, none⟩ = some (.int .i64 a.k) ∧ w'.cell? ⟨g, off + k * 3 + 1, none⟩ = some (.int .i64 a.id) ∧ w'.cell? ⟨g, off + k * 3 + 2, none⟩ = some (.string a.n) from by
          have h9 := Rd.atA (HRD.out.belowN (HB0.out.trans (hb.mono HB0.out.size))) ha
          exact ⟨h9.p0, h9.p1, h9.p2⟩))
        have HLS := hide (HZ.out.listO (by omega))
        clear hlt hk ha
        go_wp2_with fail
        refine Calls.mono HLS.out ?_
        rintro e w2 ⟨v2, rfl, s2, f2, b2⟩
        obtain ⟨A2, c2, rfl, _, _⟩ := Sl.form s2
        have H2 := hide (HZ.out.join b2 s2 f2)
        obtain ⟨n2, hn2⟩ : ∃ n2, n2 = s.order.length := ⟨_, rfl⟩
        rw [← hn2]
        have HN2 := hide hn2
        have HWR := hide (Sl.rowOk s2)
        obtain ⟨p0, p1, p2⟩ := HCA.out w2 H2.out.bel
        have HDO := hide (do_any H2.out HR0.out (by omega) a (HLL.out.1 a (List.mem_of_getElem? HA.out)))
        clear s2 f2 b2 HLS hn2
        go_wp2_with fail
        refine Calls.mono HDO.out ?_
        rintro e w3 ⟨rfl, s3, tx3, hdr, h3⟩
        have H3 := hide h3
        have HDR := hide hdr
        have HOK := hide HZ.out.ok
        obtain ⟨E, hE⟩ : ∃ E, E = doE s tx a := ⟨_, rfl⟩
        obtain ⟨I, hI⟩ : ∃ I, I = doI s a := ⟨_, rfl⟩
        obtain ⟨P0, hP0⟩ : ∃ P0, P0 = a.p := ⟨_, rfl⟩
        have HE := hide hE
        have HI := hide hI
        have HP0 := hide hP0
        have HPK := hide (fun w => a.pick hP0.symm w)
        rw [← hE, ← hI]
        have HNXT := hide (show s3.next = if P0 ≤ 1 ∧ E = 0 then nxt + 1 else nxt from by rw [hE, hP0, HNX.out]; exact hdr.next)
        have HFR := hide (show frN F P0 E a.id <+: s3.order from by rw [hE, hP0]; exact hdr.front HZ.out.ok HPRE.out)
        have hpc := a.cases
        rw [← hP0] at hpc
        obtain ⟨q0, q1, q2⟩ := HCA.out w3 h3.bel
        clear p0 p1 p2 hdr h3 HDO hE hI hP0
        go_wp2_with fail
        refine Calls.mono (HPK.out _) ?_
        rintro e w4 ⟨rfl, rfl⟩
        by_cases hc : P0 ≤ 1 ∧ E = 0
        · as_aux_lemma =>
            obtain ⟨hp1, hE0⟩ := hc
            have t1 : decide (P0 < 2) = true := by simp; omega
            have t2 : (E == 0) = true := by simp; omega
            have t3 : decide (E = 0) = true := by simp; omega
            have t4 : (E != 0) = false := by simp; omega
            have t5 : (P0 != 8) = true := by simp; omega
            have t6 : (P0 != 4) = true := by simp; omega
            have t7 : (P0 != 3) = true := by simp; omega
            have t8 : decide (1 < P0) = false := by simp; omega
            have HC := hide (And.intro hp1 hE0)
            have HII := hide (show I = (nxt : Int) from by
              rw [HI.out]
              unfold doI
              rw [← HP0.out, if_pos hp1, if_pos (show creE s a.n = 0 by rw [HE.out] at hE0; unfold doE at hE0; rwa [← HP0.out, if_pos hp1] at hE0), HNX.out])
            rw [HII.out]
            have t9 : ((nxt : Int) != (nxt : Int)) = false := by simp
            have HN3 := hide (show nxt + 1 = s3.next from by rw [HNXT.out, if_pos HC.out])
            have HPRE2 := hide (show F <+: s3.order from by
              have h9 := HFR.out
              unfold frN at h9
              rwa [if_neg (by have := HC.out; omega)] at h9)
            have H5 := hide (H3.out.dropL)
            clear hp1 hE0 hpc q0 q1 q2
            have HLS5 := hide (H5.out.listO (by omega))
            go_wp2_with fail
            obtain ⟨nx3, hx3⟩ : ∃ nx3, nx3 = nxt + 1 := ⟨_, rfl⟩
            rw [← hx3] at HN3
            rw [show (nxt : Int) + 1 = (nx3 : Int) by omega]
            have hnx3 : (nx3 : Int) ≤ 62 := by omega
            clear hx3
            refine Calls.mono HLS5.out ?_
            rintro e w6 ⟨v6, rfl, s6, f6, b6⟩
            obtain ⟨A6, c6, rfl, hcap, _⟩ := Sl.form s6
            have H6 := hide (H5.out.join b6 s6 f6)
            have HW6 := hide (Sl.rowOk s6)
            obtain ⟨n6, hn6⟩ : ∃ n6, n6 = s3.order.length := ⟨_, rfl⟩
            rw [← hn6] at hcap H6 HW6 ⊢
            have HN6 := hide hn6
            have HLE := hide (show m1 ≤ n6 from by rw [HM1.out, hn6]; exact HPRE2.out.length_le)
            have x1 : decide ((n6 : Int) < (m1 : Int)) = false := by have := HLE.out; simp; omega
            have x1b : decide (n6 < m1) = false := by have := HLE.out; simp; omega
            have x2 : (m1 : Int) ≤ (c6 : Int) := by have := HLE.out; omega
            have x3 : m1 ≤ c6 := by have := HLE.out; omega
            have HTK := hide (show s3.order.take m1 = F from by rw [HM1.out]; exact (List.prefix_iff_eq_take.1 HPRE2.out).symm)
            have HS6 := hide (show IntSl w6 (.slice A6 n6 c6) s3.order from by
              unfold IntSl
              rw [← hn6]
              exact H6.out.rowSl (fun x hx => List.mem_append_left _ hx) (by rw [ints_size, hn6, Nat.mul_one]) HW6.out)
            have HSF := hide (show IntSl w6 (.slice B m1 d) F from by
              unfold IntSl
              rw [← HM1.out]
              exact H6.out.rowSl (fun x hx => List.mem_append_right _ hx) (by rw [ints_size, HM1.out, Nat.mul_one]) HROW.out)
            have HSM := hide (same_ints w6 F m1 m1 A6 B c6 d HM1.out HM1.out (by
                have h9 := HS6.out.rd
                rw [← hn6] at h9
                have h8 := h9.cutI HLE.out
                rwa [HTK.out] at h8) (by
                have h9 := HSF.out.rd
                rwa [← HM1.out] at h9) (by have := H6.out.len; have := HLE.out; have := HM1.out; have := hn60; omega))
            clear s6 f6 b6 HLS5 hn6
            go_wp2_with fail
            refine Calls.mono HSM.out ?_
            rintro e w7 ⟨rfl, b7⟩
            have H7 := hide (H6.out.below b7)
            have HMY := H7.out.many
            rw [← H7.out.ok.len, ← HN6.out] at HMY
            have HMY := hide HMY
            clear b7
            go_wp2_with fail
            refine Calls.mono HMY.out ?_
            rintro e w8 ⟨rfl, rfl⟩
            have hmk := make_seen
            have H8 := hide (H7.out.newMap)
            have hn6b : (n6 : Int) ≤ 1000 := by have := H7.out.len; have := HN6.out; omega
            have hp6 : 0 < n6 := by
              rw [HN6.out]
              exact List.length_pos_of_mem H7.out.cu
            obtain ⟨g6, o6, rfl⟩ : ∃ g6 o6, A6 = some ⟨g6, o6, none⟩ := by
              have h9 := HS6.out.rd
              rw [← HN6.out] at h9
              exact Rd.some_ h9 hp6
            obtain ⟨mb, hmb⟩ : ∃ mb, mb = w7.heap.size := ⟨_, rfl⟩
            rw [← hmb] at H8
            go_wp2_with fail
            rw [← hmb]
            clear hmb hmk x1 x1b x2 x3 hp6
            go_loopw [15, 16] (fun cv jv wr => ∃ j : Nat, j ≤ n6 ∧ jv = .int .i64 (j : Int) ∧ cv = .bool (decide (s3.cur ∈ s3.order.take j)) ∧ LZ w0 wr sb s3 tx3 (k + 1) ((mb, .map (seenP (s3.order.take j))) :: (rowOf 3 1 (.slice (some ⟨g6, o6, none⟩) n6 c6) n6 (ints s3.order) ++ rowOf 3 1 (.slice B m1 d) m1 (ints F)))) (fun _ jv _ => n6 - (intOf jv).toNat)
            case atStart => exact ⟨0, Nat.zero_le _, rfl, by simp, H8.out⟩
            case round =>
              obtain ⟨j, hj, rfl, rfl, hz9⟩ := hrel
              have H9 := hide hz9
              by_cases hlj : j < n6
              · have u1 : decide (j < n6) = true := by simpa using hlj
                have u2 : decide ((j : Int) < (n6 : Int)) = true := by simp; omega
                have u3 : (j : Int) < (n6 : Int) := by omega
                have HLJ := hide hlj
                obtain ⟨i9, hi9⟩ : ∃ i9, s3.order[j]? = some i9 := ⟨_, List.getElem?_eq_getElem (by rw [← HN6.out]; exact hlj)⟩
                have HI9 := hide hi9
                have hs9 : IntSl wr (.slice (some ⟨g6, o6, none⟩) n6 c6) s3.order := by
                  unfold IntSl
                  rw [← HN6.out]
                  exact hz9.rowSl (fun x hx => List.mem_cons_of_mem _ (List.mem_append_left _ hx)) (by rw [ints_size, HN6.out, Nat.mul_one]) HW6.out
                have HC9 := hide (fun (w' : World) (h' : IntSl w' (.slice (some ⟨g6, o6, none⟩) n6 c6) s3.order) => (show w'.cell? ⟨g6, o6 + j, none⟩ = some (.int .i64 (i9 : Int)) from by
                  have h8 := h'.rd
                  rw [← HN6.out] at h8
                  obtain ⟨g', o', e1, h7⟩ := rd_cells h8 (by have := HLJ.out; omega)
                  obtain ⟨rfl, rfl⟩ : g6 = g' ∧ o6 = o' := by
                    injection e1 with e1
                    injection e1 with e2 e3 _
                    exact ⟨e2, e3⟩
                  exact h7 w' (Below.refl _ _) j _ (ints_at HI9.out)))
                have d9 := HC9.out wr hs9
                have HMP := hide (hz9.ownR.mapIs (g := mb) (List.mem_cons_self ..))
                have hlk := HMP.out.lookup (P := Tryz.prog) (seen_keys _) Tryz.underlying47 Tryz.underlying3 (.int _ (i9 : Int)) (zero_bool wr) false
                rw [seen_get (take_not H7.out.ok.onod hi9)] at hlk
                simp only [Option.getD_none, Bool.false_eq_true, if_false] at hlk
                obtain ⟨w10, hup, hm10, ho10⟩ := HMP.out.update (P := Tryz.prog) (seen_keys _) Tryz.underlying47 Tryz.underlying3 (.int _ (i9 : Int)) (.bool true)
                rw [seen_put (take_not H7.out.ok.onod hi9), ← take_snoc hi9] at hm10
                have H10 := hide (hz9.turnMap ho10 hm10)
                have hs10 : IntSl w10 (.slice (some ⟨g6, o6, none⟩) n6 c6) s3.order := by
                  unfold IntSl
                  rw [← HN6.out]
                  exact H10.out.rowSl (fun x hx => List.mem_cons_of_mem _ (List.mem_append_left _ hx)) (by rw [ints_size, HN6.out, Nat.mul_one]) HW6.out
                have d10 := HC9.out w10 hs10
                have hi10 : i9 < nx3 := by rw [HN3.out]; exact H7.out.ok.lt i9 (List.mem_of_getElem? hi9)
                have u4 : decide ((i9 : Int) < 0) = false := by simp
                have u5 : decide ((nx3 : Int) ≤ (i9 : Int)) = false := by simp; omega
                have u6 : decide (nx3 ≤ i9) = false := by simp; omega
                have HCU := hide (fun (q : Nat) => (show Calls Tryz.prog 21 #[.pointer (some ⟨sb, 0, none⟩)] (w10.drewN q) fun e w' => e = .returned (.int .i64 (s3.cur : Int)) ∧ w' = w10.drewN q from ((H10.out.below (below_drewN (Below.refl _ _) q)).current).mono fun _ _ h9 => ⟨h9.1, h9.2.symm⟩))
                have HTS := hide (show s3.order.take (j + 1) = s3.order.take j ++ [i9] from take_snoc hi9)
                clear hi9 hs9 hs10 hm10 ho10 hz9 hj hlj hi10
                cases hcv : decide (s3.cur ∈ s3.order.take j) with
                | true =>
                  have HCV := hide hcv
                  clear hcv
                  go_upto_region 40 with fail
                  go_quiet (fail)
                  go_wp2_with fail
                  go_roundw
                  case rel => exact ⟨j + 1, HLJ.out, by go_num, by
                    rw [HTS.out]
                    have := of_decide_eq_true HCV.out
                    rw [decide_eq_true (List.mem_append_left _ this)], H10.out.below (below_drewN (Below.refl _ _) _)⟩
                  case measure => have := HLJ.out; simp [intOf]; omega
                | false =>
                  have HCV := hide hcv
                  clear hcv
                  have HEQ := hide (show decide (s3.cur ∈ s3.order.take (j + 1)) = decide (i9 = s3.cur) from by
                    rw [HTS.out]
                    have := of_decide_eq_false HCV.out
                    by_cases e : i9 = s3.cur
                    · rw [decide_eq_true e, decide_eq_true (by rw [e]; exact List.mem_append_right _ (List.mem_cons_self ..))]
                    · rw [decide_eq_false e, decide_eq_false]
                      intro hm
                      rcases List.mem_append.1 hm with hm | hm
                      · exact this hm
                      · exact e (List.mem_singleton.1 hm).symm)
                  go_upto_region 40 with fail
                  by_cases e : i9 = s3.cur
                  · have v1 : ((i9 : Int) == (s3.cur : Int)) = true := by simp [e]
                    have v2 : decide ((i9 : Int) = (s3.cur : Int)) = true := by simp [e]
                    have HE9 := hide e
                    clear e
                    go_quiet ((go_at_call 21; refine Calls.quiet_of_same (HCU.out _)))
                    go_wp2_with fail
                    go_roundw
                    case rel => exact ⟨j + 1, HLJ.out, by go_num, by rw [HEQ.out, decide_eq_true HE9.out], H10.out.below (below_drewN (Below.refl _ _) _)⟩
                    case measure => have := HLJ.out; simp [intOf]; omega
                  · have v1 : ((i9 : Int) == (s3.cur : Int)) = false := by simp; omega
                    have v2 : decide ((i9 : Int) = (s3.cur : Int)) = false := by simp; omega
                    have HE9 := hide e
                    clear e
                    go_quiet ((go_at_call 21; refine Calls.quiet_of_same (HCU.out _)))
                    go_wp2_with fail
                    go_roundw
                    case rel => exact ⟨j + 1, HLJ.out, by go_num, by rw [HEQ.out, decide_eq_false HE9.out], H10.out.below (below_drewN (Below.refl _ _) _)⟩
                    case measure => have := HLJ.out; simp [intOf]; omega
              · have u1 : decide (j < n6) = false := by simpa using hlj
                have u2 : decide ((j : Int) < (n6 : Int)) = false := by simp; omega
                have hjn : j = n6 := by omega
                have HCV := hide (show decide (s3.cur ∈ s3.order.take j) = true from by
                  rw [hjn, List.take_of_length_le (by rw [HN6.out]; exact Nat.le_refl _)]
                  exact decide_eq_true H7.out.cu)
                rw [HCV.out]
                clear hj hlj hz9 hjn
                go_wp2_with fail
                go_roundw
                case rel => exact ⟨k + 1, s3, tx3, F, B, d, nx3, m1, HLT.out, by go_num, rfl, HN3.out, rfl, HM1.out, HROW.out, HPRE2.out, (H9.out.sub (List.sublist_cons_self _ _)).dropL⟩
                case measure => have := HLT.out; simp [intOf]; omega
        have HCN0 := hide hc
        clear hc
        by_cases hc : P0 ≤ 1 ∧ E ≠ 0
        · as_aux_lemma =>
            obtain ⟨hpq, hE0⟩ := hc
            have t1 : decide (P0 < 2) = true := by simp; omega
            have t2 : (E == 0) = false := by simp; omega
            have t3 : decide (E = 0) = false := by simp; omega
            have t4 : (E != 0) = true := by simp; omega
            have HC := hide hE0
            have HN3 := hide (show nxt = s3.next from by rw [HNXT.out, if_neg (fun h9 => HC.out h9.2)])
            have HOS := hide (show s3.order = s.order from HDR.out.fail (by rw [← HE.out]; exact HC.out))
            have HPRE2 := hide (show F <+: s3.order from by rw [HOS.out]; exact HPRE.out)
            have HLS4 := hide (H3.out.listO (by omega))
            clear hpq hE0 hpc q0 q1 q2
            go_wp2_with fail
            refine Calls.mono HLS4.out ?_
            rintro e w5 ⟨v5, rfl, s5, f5, b5⟩
            obtain ⟨A5, c5, rfl, _, _⟩ := Sl.form s5
            rw [HOS.out] at s5 ⊢
            rw [← HN2.out] at s5 ⊢
            have HR5 := hide s5
            have H4 := hide (H3.out.below b5)
            have HSW := hide (show IntSl w5 (.slice A2 n2 c2) s.order from by
              unfold IntSl
              rw [← HN2.out]
              exact H4.out.rowSl (fun x hx => List.mem_append_left _ (by rw [← HN2.out]; exact hx)) (by rw [ints_size, HN2.out, Nat.mul_one]) (by rw [HN2.out]; exact HWR.out))
            have HSM4 := hide (same_ints w5 s.order n2 n2 A5 A2 c5 c2 HN2.out HN2.out (by have h9 := HR5.out.rd; rwa [← HN2.out] at h9) (by have h9 := HSW.out.rd; rwa [← HN2.out] at h9) (by have := HZ.out.len; omega))
            clear s5 f5 b5 HLS4
            go_wp2_with fail
            refine Calls.mono HSM4.out ?_
            rintro e w5' ⟨rfl, b5⟩
            have H5 := hide ((H4.out.below b5).dropL)
            clear b5
            have HLS5 := hide (H5.out.listO (by omega))
            go_wp2_with fail
            have hnx3 : (nxt : Int) ≤ 62 := by omega
            refine Calls.mono HLS5.out ?_
            rintro e w6 ⟨v6, rfl, s6, f6, b6⟩
            obtain ⟨A6, c6, rfl, hcap, _⟩ := Sl.form s6
            have H6 := hide (H5.out.join b6 s6 f6)
            have HW6 := hide (Sl.rowOk s6)
            obtain ⟨n6, hn6⟩ : ∃ n6, n6 = s3.order.length := ⟨_, rfl⟩
            rw [← hn6] at hcap H6 HW6 ⊢
            have HN6 := hide hn6
            have HLE := hide (show m1 ≤ n6 from by rw [HM1.out, hn6]; exact HPRE2.out.length_le)
            have x1 : decide ((n6 : Int) < (m1 : Int)) = false := by have := HLE.out; simp; omega
            have x1b : decide (n6 < m1) = false := by have := HLE.out; simp; omega
            have x2 : (m1 : Int) ≤ (c6 : Int) := by have := HLE.out; omega
            have x3 : m1 ≤ c6 := by have := HLE.out; omega
            have HTK := hide (show s3.order.take m1 = F from by rw [HM1.out]; exact (List.prefix_iff_eq_take.1 HPRE2.out).symm)
            have HS6 := hide (show IntSl w6 (.slice A6 n6 c6) s3.order from by
              unfold IntSl
              rw [← hn6]
              exact H6.out.rowSl (fun x hx => List.mem_append_left _ hx) (by rw [ints_size, hn6, Nat.mul_one]) HW6.out)
            have HSF := hide (show IntSl w6 (.slice B m1 d) F from by
              unfold IntSl
              rw [← HM1.out]
              exact H6.out.rowSl (fun x hx => List.mem_append_right _ hx) (by rw [ints_size, HM1.out, Nat.mul_one]) HROW.out)
            have HSM := hide (same_ints w6 F m1 m1 A6 B c6 d HM1.out HM1.out (by
                have h9 := HS6.out.rd
                rw [← hn6] at h9
                have h8 := h9.cutI HLE.out
                rwa [HTK.out] at h8) (by
                have h9 := HSF.out.rd
                rwa [← HM1.out] at h9) (by have := H6.out.len; have := HLE.out; have := HM1.out; have := hn60; omega))
            clear s6 f6 b6 HLS5 hn6
            go_wp2_with fail
            refine Calls.mono HSM.out ?_
            rintro e w7 ⟨rfl, b7⟩
            have H7 := hide (H6.out.below b7)
            have HMY := H7.out.many
            rw [← H7.out.ok.len, ← HN6.out] at HMY
            have HMY := hide HMY
            clear b7
            go_wp2_with fail
            refine Calls.mono HMY.out ?_
            rintro e w8 ⟨rfl, rfl⟩
            have hmk := make_seen
            have H8 := hide (H7.out.newMap)
            have hn6b : (n6 : Int) ≤ 1000 := by have := H7.out.len; have := HN6.out; omega
            have hp6 : 0 < n6 := by
              rw [HN6.out]
              exact List.length_pos_of_mem H7.out.cu
            obtain ⟨g6, o6, rfl⟩ : ∃ g6 o6, A6 = some ⟨g6, o6, none⟩ := by
              have h9 := HS6.out.rd
              rw [← HN6.out] at h9
              exact Rd.some_ h9 hp6
            obtain ⟨mb, hmb⟩ : ∃ mb, mb = w7.heap.size := ⟨_, rfl⟩
            rw [← hmb] at H8
            go_wp2_with fail
            rw [← hmb]
            clear hmb hmk x1 x1b x2 x3 hp6
            go_loopw [15, 16] (fun cv jv wr => ∃ j : Nat, j ≤ n6 ∧ jv = .int .i64 (j : Int) ∧ cv = .bool (decide (s3.cur ∈ s3.order.take j)) ∧ LZ w0 wr sb s3 tx3 (k + 1) ((mb, .map (seenP (s3.order.take j))) :: (rowOf 3 1 (.slice (some ⟨g6, o6, none⟩) n6 c6) n6 (ints s3.order) ++ rowOf 3 1 (.slice B m1 d) m1 (ints F)))) (fun _ jv _ => n6 - (intOf jv).toNat)
            case atStart => exact ⟨0, Nat.zero_le _, rfl, by simp, H8.out⟩
            case round =>
              obtain ⟨j, hj, rfl, rfl, hz9⟩ := hrel
              have H9 := hide hz9
              by_cases hlj : j < n6
              · have u1 : decide (j < n6) = true := by simpa using hlj
                have u2 : decide ((j : Int) < (n6 : Int)) = true := by simp; omega
                have u3 : (j : Int) < (n6 : Int) := by omega
                have HLJ := hide hlj
                obtain ⟨i9, hi9⟩ : ∃ i9, s3.order[j]? = some i9 := ⟨_, List.getElem?_eq_getElem (by rw [← HN6.out]; exact hlj)⟩
                have HI9 := hide hi9
                have hs9 : IntSl wr (.slice (some ⟨g6, o6, none⟩) n6 c6) s3.order := by
                  unfold IntSl
                  rw [← HN6.out]
                  exact hz9.rowSl (fun x hx => List.mem_cons_of_mem _ (List.mem_append_left _ hx)) (by rw [ints_size, HN6.out, Nat.mul_one]) HW6.out
                have HC9 := hide (fun (w' : World) (h' : IntSl w' (.slice (some ⟨g6, o6, none⟩) n6 c6) s3.order) => (show w'.cell? ⟨g6, o6 + j, none⟩ = some (.int .i64 (i9 : Int)) from by
                  have h8 := h'.rd
                  rw [← HN6.out] at h8
                  obtain ⟨g', o', e1, h7⟩ := rd_cells h8 (by have := HLJ.out; omega)
                  obtain ⟨rfl, rfl⟩ : g6 = g' ∧ o6 = o' := by
                    injection e1 with e1
                    injection e1 with e2 e3 _
                    exact ⟨e2, e3⟩
                  exact h7 w' (Below.refl _ _) j _ (ints_at HI9.out)))
                have d9 := HC9.out wr hs9
                have HMP := hide (hz9.ownR.mapIs (g := mb) (List.mem_cons_self ..))
                have hlk := HMP.out.lookup (P := Tryz.prog) (seen_keys _) Tryz.underlying47 Tryz.underlying3 (.int _ (i9 : Int)) (zero_bool wr) false
                rw [seen_get (take_not H7.out.ok.onod hi9)] at hlk
                simp only [Option.getD_none, Bool.false_eq_true, if_false] at hlk
                obtain ⟨w10, hup, hm10, ho10⟩ := HMP.out.update (P := Tryz.prog) (seen_keys _) Tryz.underlying47 Tryz.underlying3 (.int _ (i9 : Int)) (.bool true)
                rw [seen_put (take_not H7.out.ok.onod hi9), ← take_snoc hi9] at hm10
                have H10 := hide (hz9.turnMap ho10 hm10)
                have hs10 : IntSl w10 (.slice (some ⟨g6, o6, none⟩) n6 c6) s3.order := by
                  unfold IntSl
                  rw [← HN6.out]
                  exact H10.out.rowSl (fun x hx => List.mem_cons_of_mem _ (List.mem_append_left _ hx)) (by rw [ints_size, HN6.out, Nat.mul_one]) HW6.out
                have d10 := HC9.out w10 hs10
                have hi10 : i9 < nxt := by rw [HN3.out]; exact H7.out.ok.lt i9 (List.mem_of_getElem? hi9)
                have u4 : decide ((i9 : Int) < 0) = false := by simp
                have u5 : decide ((nxt : Int) ≤ (i9 : Int)) = false := by simp; omega
                have u6 : decide (nxt ≤ i9) = false := by simp; omega
                have HCU := hide (fun (q : Nat) => (show Calls Tryz.prog 21 #[.pointer (some ⟨sb, 0, none⟩)] (w10.drewN q) fun e w' => e = .returned (.int .i64 (s3.cur : Int)) ∧ w' = w10.drewN q from ((H10.out.below (below_drewN (Below.refl _ _) q)).current).mono fun _ _ h9 => ⟨h9.1, h9.2.symm⟩))
                have HTS := hide (show s3.order.take (j + 1) = s3.order.take j ++ [i9] from take_snoc hi9)
                clear hi9 hs9 hs10 hm10 ho10 hz9 hj hlj hi10
                cases hcv : decide (s3.cur ∈ s3.order.take j) with
                | true =>
                  have HCV := hide hcv
                  clear hcv
                  go_upto_region 40 with fail
                  go_quiet (fail)
                  go_wp2_with fail
                  go_roundw
                  case rel => exact ⟨j + 1, HLJ.out, by go_num, by
                    rw [HTS.out]
                    have := of_decide_eq_true HCV.out
                    rw [decide_eq_true (List.mem_append_left _ this)], H10.out.below (below_drewN (Below.refl _ _) _)⟩
                  case measure => have := HLJ.out; simp [intOf]; omega
                | false =>
                  have HCV := hide hcv
                  clear hcv
                  have HEQ := hide (show decide (s3.cur ∈ s3.order.take (j + 1)) = decide (i9 = s3.cur) from by
                    rw [HTS.out]
                    have := of_decide_eq_false HCV.out
                    by_cases e : i9 = s3.cur
                    · rw [decide_eq_true e, decide_eq_true (by rw [e]; exact List.mem_append_right _ (List.mem_cons_self ..))]
                    · rw [decide_eq_false e, decide_eq_false]
                      intro hm
                      rcases List.mem_append.1 hm with hm | hm
                      · exact this hm
                      · exact e (List.mem_singleton.1 hm).symm)
                  go_upto_region 40 with fail
                  by_cases e : i9 = s3.cur
                  · have v1 : ((i9 : Int) == (s3.cur : Int)) = true := by simp [e]
                    have v2 : decide ((i9 : Int) = (s3.cur : Int)) = true := by simp [e]
                    have HE9 := hide e
                    clear e
                    go_quiet ((go_at_call 21; refine Calls.quiet_of_same (HCU.out _)))
                    go_wp2_with fail
                    go_roundw
                    case rel => exact ⟨j + 1, HLJ.out, by go_num, by rw [HEQ.out, decide_eq_true HE9.out], H10.out.below (below_drewN (Below.refl _ _) _)⟩
                    case measure => have := HLJ.out; simp [intOf]; omega
                  · have v1 : ((i9 : Int) == (s3.cur : Int)) = false := by simp; omega
                    have v2 : decide ((i9 : Int) = (s3.cur : Int)) = false := by simp; omega
                    have HE9 := hide e
                    clear e
                    go_quiet ((go_at_call 21; refine Calls.quiet_of_same (HCU.out _)))
                    go_wp2_with fail
                    go_roundw
                    case rel => exact ⟨j + 1, HLJ.out, by go_num, by rw [HEQ.out, decide_eq_false HE9.out], H10.out.below (below_drewN (Below.refl _ _) _)⟩
                    case measure => have := HLJ.out; simp [intOf]; omega
              · have u1 : decide (j < n6) = false := by simpa using hlj
                have u2 : decide ((j : Int) < (n6 : Int)) = false := by simp; omega
                have hjn : j = n6 := by omega
                have HCV := hide (show decide (s3.cur ∈ s3.order.take j) = true from by
                  rw [hjn, List.take_of_length_le (by rw [HN6.out]; exact Nat.le_refl _)]
                  exact decide_eq_true H7.out.cu)
                rw [HCV.out]
                clear hj hlj hz9 hjn
                go_wp2_with fail
                go_roundw
                case rel => exact ⟨k + 1, s3, tx3, F, B, d, nxt, m1, HLT.out, by go_num, rfl, HN3.out, rfl, HM1.out, HROW.out, HPRE2.out, (H9.out.sub (List.sublist_cons_self _ _)).dropL⟩
                case measure => have := HLT.out; simp [intOf]; omega
        have HCN1 := hide hc
        clear hc
        by_cases hc : ¬ P0 ≤ 1 ∧ E ≠ 0
        · as_aux_lemma =>
            obtain ⟨hpq, hE0⟩ := hc
            have t1 : decide (P0 < 2) = false := by simp; omega
            have t2 : (E == 0) = false := by simp; omega
            have t3 : decide (E = 0) = false := by simp; omega
            have t4 : (E != 0) = true := by simp; omega
            have HC := hide hE0
            have HN3 := hide (show nxt = s3.next from by rw [HNXT.out, if_neg (fun h9 => HC.out h9.2)])
            have HOS := hide (show s3.order = s.order from HDR.out.fail (by rw [← HE.out]; exact HC.out))
            have HPRE2 := hide (show F <+: s3.order from by rw [HOS.out]; exact HPRE.out)
            have HLS4 := hide (H3.out.listO (by omega))
            clear hpq hE0 hpc q0 q1 q2
            go_wp2_with fail
            refine Calls.mono HLS4.out ?_
            rintro e w5 ⟨v5, rfl, s5, f5, b5⟩
            obtain ⟨A5, c5, rfl, _, _⟩ := Sl.form s5
            rw [HOS.out] at s5 ⊢
            rw [← HN2.out] at s5 ⊢
            have HR5 := hide s5
            have H4 := hide (H3.out.below b5)
            have HSW := hide (show IntSl w5 (.slice A2 n2 c2) s.order from by
              unfold IntSl
              rw [← HN2.out]
              exact H4.out.rowSl (fun x hx => List.mem_append_left _ (by rw [← HN2.out]; exact hx)) (by rw [ints_size, HN2.out, Nat.mul_one]) (by rw [HN2.out]; exact HWR.out))
            have HSM4 := hide (same_ints w5 s.order n2 n2 A5 A2 c5 c2 HN2.out HN2.out (by have h9 := HR5.out.rd; rwa [← HN2.out] at h9) (by have h9 := HSW.out.rd; rwa [← HN2.out] at h9) (by have := HZ.out.len; omega))
            clear s5 f5 b5 HLS4
            go_wp2_with fail
            refine Calls.mono HSM4.out ?_
            rintro e w5' ⟨rfl, b5⟩
            have H5 := hide ((H4.out.below b5).dropL)
            clear b5
            have HLS5 := hide (H5.out.listO (by omega))
            go_wp2_with fail
            have hnx3 : (nxt : Int) ≤ 62 := by omega
            refine Calls.mono HLS5.out ?_
            rintro e w6 ⟨v6, rfl, s6, f6, b6⟩
            obtain ⟨A6, c6, rfl, hcap, _⟩ := Sl.form s6
            have H6 := hide (H5.out.join b6 s6 f6)
            have HW6 := hide (Sl.rowOk s6)
            obtain ⟨n6, hn6⟩ : ∃ n6, n6 = s3.order.length := ⟨_, rfl⟩
            rw [← hn6] at hcap H6 HW6 ⊢
            have HN6 := hide hn6
            have HLE := hide (show m1 ≤ n6 from by rw [HM1.out, hn6]; exact HPRE2.out.length_le)
            have x1 : decide ((n6 : Int) < (m1 : Int)) = false := by have := HLE.out; simp; omega
            have x1b : decide (n6 < m1) = false := by have := HLE.out; simp; omega
            have x2 : (m1 : Int) ≤ (c6 : Int) := by have := HLE.out; omega
            have x3 : m1 ≤ c6 := by have := HLE.out; omega
            have HTK := hide (show s3.order.take m1 = F from by rw [HM1.out]; exact (List.prefix_iff_eq_take.1 HPRE2.out).symm)
            have HS6 := hide (show IntSl w6 (.slice A6 n6 c6) s3.order from by
              unfold IntSl
              rw [← hn6]
              exact H6.out.rowSl (fun x hx => List.mem_append_left _ hx) (by rw [ints_size, hn6, Nat.mul_one]) HW6.out)
            have HSF := hide (show IntSl w6 (.slice B m1 d) F from by
              unfold IntSl
              rw [← HM1.out]
              exact H6.out.rowSl (fun x hx => List.mem_append_right _ hx) (by rw [ints_size, HM1.out, Nat.mul_one]) HROW.out)
            have HSM := hide (same_ints w6 F m1 m1 A6 B c6 d HM1.out HM1.out (by
                have h9 := HS6.out.rd
                rw [← hn6] at h9
                have h8 := h9.cutI HLE.out
                rwa [HTK.out] at h8) (by
                have h9 := HSF.out.rd
                rwa [← HM1.out] at h9) (by have := H6.out.len; have := HLE.out; have := HM1.out; have := hn60; omega))
            clear s6 f6 b6 HLS5 hn6
            go_wp2_with fail
            refine Calls.mono HSM.out ?_
            rintro e w7 ⟨rfl, b7⟩
            have H7 := hide (H6.out.below b7)
            have HMY := H7.out.many
            rw [← H7.out.ok.len, ← HN6.out] at HMY
            have HMY := hide HMY
            clear b7
            go_wp2_with fail
            refine Calls.mono HMY.out ?_
            rintro e w8 ⟨rfl, rfl⟩
            have hmk := make_seen
            have H8 := hide (H7.out.newMap)
            have hn6b : (n6 : Int) ≤ 1000 := by have := H7.out.len; have := HN6.out; omega
            have hp6 : 0 < n6 := by
              rw [HN6.out]
              exact List.length_pos_of_mem H7.out.cu
            obtain ⟨g6, o6, rfl⟩ : ∃ g6 o6, A6 = some ⟨g6, o6, none⟩ := by
              have h9 := HS6.out.rd
              rw [← HN6.out] at h9
              exact Rd.some_ h9 hp6
            obtain ⟨mb, hmb⟩ : ∃ mb, mb = w7.heap.size := ⟨_, rfl⟩
            rw [← hmb] at H8
            go_wp2_with fail
            rw [← hmb]
            clear hmb hmk x1 x1b x2 x3 hp6
            go_loopw [15, 16] (fun cv jv wr => ∃ j : Nat, j ≤ n6 ∧ jv = .int .i64 (j : Int) ∧ cv = .bool (decide (s3.cur ∈ s3.order.take j)) ∧ LZ w0 wr sb s3 tx3 (k + 1) ((mb, .map (seenP (s3.order.take j))) :: (rowOf 3 1 (.slice (some ⟨g6, o6, none⟩) n6 c6) n6 (ints s3.order) ++ rowOf 3 1 (.slice B m1 d) m1 (ints F)))) (fun _ jv _ => n6 - (intOf jv).toNat)
            case atStart => exact ⟨0, Nat.zero_le _, rfl, by simp, H8.out⟩
            case round =>
              obtain ⟨j, hj, rfl, rfl, hz9⟩ := hrel
              have H9 := hide hz9
              by_cases hlj : j < n6
              · have u1 : decide (j < n6) = true := by simpa using hlj
                have u2 : decide ((j : Int) < (n6 : Int)) = true := by simp; omega
                have u3 : (j : Int) < (n6 : Int) := by omega
                have HLJ := hide hlj
                obtain ⟨i9, hi9⟩ : ∃ i9, s3.order[j]? = some i9 := ⟨_, List.getElem?_eq_getElem (by rw [← HN6.out]; exact hlj)⟩
                have HI9 := hide hi9
                have hs9 : IntSl wr (.slice (some ⟨g6, o6, none⟩) n6 c6) s3.order := by
                  unfold IntSl
                  rw [← HN6.out]
                  exact hz9.rowSl (fun x hx => List.mem_cons_of_mem _ (List.mem_append_left _ hx)) (by rw [ints_size, HN6.out, Nat.mul_one]) HW6.out
                have HC9 := hide (fun (w' : World) (h' : IntSl w' (.slice (some ⟨g6, o6, none⟩) n6 c6) s3.order) => (show w'.cell? ⟨g6, o6 + j, none⟩ = some (.int .i64 (i9 : Int)) from by
                  have h8 := h'.rd
                  rw [← HN6.out] at h8
                  obtain ⟨g', o', e1, h7⟩ := rd_cells h8 (by have := HLJ.out; omega)
                  obtain ⟨rfl, rfl⟩ : g6 = g' ∧ o6 = o' := by
                    injection e1 with e1
                    injection e1 with e2 e3 _
                    exact ⟨e2, e3⟩
                  exact h7 w' (Below.refl _ _) j _ (ints_at HI9.out)))
                have d9 := HC9.out wr hs9
                have HMP := hide (hz9.ownR.mapIs (g := mb) (List.mem_cons_self ..))
                have hlk := HMP.out.lookup (P := Tryz.prog) (seen_keys _) Tryz.underlying47 Tryz.underlying3 (.int _ (i9 : Int)) (zero_bool wr) false
                rw [seen_get (take_not H7.out.ok.onod hi9)] at hlk
                simp only [Option.getD_none, Bool.false_eq_true, if_false] at hlk
                obtain ⟨w10, hup, hm10, ho10⟩ := HMP.out.update (P := Tryz.prog) (seen_keys _) Tryz.underlying47 Tryz.underlying3 (.int _ (i9 : Int)) (.bool true)
                rw [seen_put (take_not H7.out.ok.onod hi9), ← take_snoc hi9] at hm10
                have H10 := hide (hz9.turnMap ho10 hm10)
                have hs10 : IntSl w10 (.slice (some ⟨g6, o6, none⟩) n6 c6) s3.order := by
                  unfold IntSl
                  rw [← HN6.out]
                  exact H10.out.rowSl (fun x hx => List.mem_cons_of_mem _ (List.mem_append_left _ hx)) (by rw [ints_size, HN6.out, Nat.mul_one]) HW6.out
                have d10 := HC9.out w10 hs10
                have hi10 : i9 < nxt := by rw [HN3.out]; exact H7.out.ok.lt i9 (List.mem_of_getElem? hi9)
                have u4 : decide ((i9 : Int) < 0) = false := by simp
                have u5 : decide ((nxt : Int) ≤ (i9 : Int)) = false := by simp; omega
                have u6 : decide (nxt ≤ i9) = false := by simp; omega
                have HCU := hide (fun (q : Nat) => (show Calls Tryz.prog 21 #[.pointer (some ⟨sb, 0, none⟩)] (w10.drewN q) fun e w' => e = .returned (.int .i64 (s3.cur : Int)) ∧ w' = w10.drewN q from ((H10.out.below (below_drewN (Below.refl _ _) q)).current).mono fun _ _ h9 => ⟨h9.1, h9.2.symm⟩))
                have HTS := hide (show s3.order.take (j + 1) = s3.order.take j ++ [i9] from take_snoc hi9)
                clear hi9 hs9 hs10 hm10 ho10 hz9 hj hlj hi10
                cases hcv : decide (s3.cur ∈ s3.order.take j) with
                | true =>
                  have HCV := hide hcv
                  clear hcv
                  go_upto_region 40 with fail
                  go_quiet (fail)
                  go_wp2_with fail
                  go_roundw
                  case rel => exact ⟨j + 1, HLJ.out, by go_num, by
                    rw [HTS.out]
                    have := of_decide_eq_true HCV.out
                    rw [decide_eq_true (List.mem_append_left _ this)], H10.out.below (below_drewN (Below.refl _ _) _)⟩
                  case measure => have := HLJ.out; simp [intOf]; omega
                | false =>
                  have HCV := hide hcv
                  clear hcv
                  have HEQ := hide (show decide (s3.cur ∈ s3.order.take (j + 1)) = decide (i9 = s3.cur) from by
                    rw [HTS.out]
                    have := of_decide_eq_false HCV.out
                    by_cases e : i9 = s3.cur
                    · rw [decide_eq_true e, decide_eq_true (by rw [e]; exact List.mem_append_right _ (List.mem_cons_self ..))]
                    · rw [decide_eq_false e, decide_eq_false]
                      intro hm
                      rcases List.mem_append.1 hm with hm | hm
                      · exact this hm
                      · exact e (List.mem_singleton.1 hm).symm)
                  go_upto_region 40 with fail
                  by_cases e : i9 = s3.cur
                  · have v1 : ((i9 : Int) == (s3.cur : Int)) = true := by simp [e]
                    have v2 : decide ((i9 : Int) = (s3.cur : Int)) = true := by simp [e]
                    have HE9 := hide e
                    clear e
                    go_quiet ((go_at_call 21; refine Calls.quiet_of_same (HCU.out _)))
                    go_wp2_with fail
                    go_roundw
                    case rel => exact ⟨j + 1, HLJ.out, by go_num, by rw [HEQ.out, decide_eq_true HE9.out], H10.out.below (below_drewN (Below.refl _ _) _)⟩
                    case measure => have := HLJ.out; simp [intOf]; omega
                  · have v1 : ((i9 : Int) == (s3.cur : Int)) = false := by simp; omega
                    have v2 : decide ((i9 : Int) = (s3.cur : Int)) = false := by simp; omega
                    have HE9 := hide e
                    clear e
                    go_quiet ((go_at_call 21; refine Calls.quiet_of_same (HCU.out _)))
                    go_wp2_with fail
                    go_roundw
                    case rel => exact ⟨j + 1, HLJ.out, by go_num, by rw [HEQ.out, decide_eq_false HE9.out], H10.out.below (below_drewN (Below.refl _ _) _)⟩
                    case measure => have := HLJ.out; simp [intOf]; omega
              · have u1 : decide (j < n6) = false := by simpa using hlj
                have u2 : decide ((j : Int) < (n6 : Int)) = false := by simp; omega
                have hjn : j = n6 := by omega
                have HCV := hide (show decide (s3.cur ∈ s3.order.take j) = true from by
                  rw [hjn, List.take_of_length_le (by rw [HN6.out]; exact Nat.le_refl _)]
                  exact decide_eq_true H7.out.cu)
                rw [HCV.out]
                clear hj hlj hz9 hjn
                go_wp2_with fail
                go_roundw
                case rel => exact ⟨k + 1, s3, tx3, F, B, d, nxt, m1, HLT.out, by go_num, rfl, HN3.out, rfl, HM1.out, HROW.out, HPRE2.out, (H9.out.sub (List.sublist_cons_self _ _)).dropL⟩
                case measure => have := HLT.out; simp [intOf]; omega
        have HCN2 := hide hc
        clear hc
        by_cases hc : P0 = 8 ∧ E = 0
        · as_aux_lemma =>
            obtain ⟨hp1, hE0⟩ := hc
            have t1 : decide (P0 < 2) = false := by simp; omega
            have t2 : (E == 0) = true := by simp; omega
            have t3 : decide (E = 0) = true := by simp; omega
            have t4 : (E != 0) = false := by simp; omega
            have t5 : (P0 != 8) = false := by simp; omega
            have t8 : decide (1 < P0) = true := by simp; omega
            have HC := hide (And.intro hp1 hE0)
            have HN3 := hide (show nxt = s3.next from by rw [HNXT.out, if_neg (by have := HC.out; omega)])
            have HPRE2 := hide (show F <+: s3.order from by
              have h9 := HFR.out
              unfold frN at h9
              rwa [if_neg (by have := HC.out; omega)] at h9)
            have H5 := hide (H3.out.dropL)
            clear hp1 hE0 hpc q0 q1 q2
            have HLS5 := hide (H5.out.listO (by omega))
            go_wp2_with fail
            have hnx3 : (nxt : Int) ≤ 62 := by omega
            refine Calls.mono HLS5.out ?_
            rintro e w6 ⟨v6, rfl, s6, f6, b6⟩
            obtain ⟨A6, c6, rfl, hcap, _⟩ := Sl.form s6
            have H6 := hide (H5.out.join b6 s6 f6)
            have HW6 := hide (Sl.rowOk s6)
            obtain ⟨n6, hn6⟩ : ∃ n6, n6 = s3.order.length := ⟨_, rfl⟩
            rw [← hn6] at hcap H6 HW6 ⊢
            have HN6 := hide hn6
            have HLE := hide (show m1 ≤ n6 from by rw [HM1.out, hn6]; exact HPRE2.out.length_le)
            have x1 : decide ((n6 : Int) < (m1 : Int)) = false := by have := HLE.out; simp; omega
            have x1b : decide (n6 < m1) = false := by have := HLE.out; simp; omega
            have x2 : (m1 : Int) ≤ (c6 : Int) := by have := HLE.out; omega
            have x3 : m1 ≤ c6 := by have := HLE.out; omega
            have HTK := hide (show s3.order.take m1 = F from by rw [HM1.out]; exact (List.prefix_iff_eq_take.1 HPRE2.out).symm)
            have HS6 := hide (show IntSl w6 (.slice A6 n6 c6) s3.order from by
              unfold IntSl
              rw [← hn6]
              exact H6.out.rowSl (fun x hx => List.mem_append_left _ hx) (by rw [ints_size, hn6, Nat.mul_one]) HW6.out)
            have HSF := hide (show IntSl w6 (.slice B m1 d) F from by
              unfold IntSl
              rw [← HM1.out]
              exact H6.out.rowSl (fun x hx => List.mem_append_right _ hx) (by rw [ints_size, HM1.out, Nat.mul_one]) HROW.out)
            have HSM := hide (same_ints w6 F m1 m1 A6 B c6 d HM1.out HM1.out (by
                have h9 := HS6.out.rd
                rw [← hn6] at h9
                have h8 := h9.cutI HLE.out
                rwa [HTK.out] at h8) (by
                have h9 := HSF.out.rd
                rwa [← HM1.out] at h9) (by have := H6.out.len; have := HLE.out; have := HM1.out; have := hn60; omega))
            clear s6 f6 b6 HLS5 hn6
            go_wp2_with fail
            refine Calls.mono HSM.out ?_
            rintro e w7 ⟨rfl, b7⟩
            have H7 := hide (H6.out.below b7)
            have HMY := H7.out.many
            rw [← H7.out.ok.len, ← HN6.out] at HMY
            have HMY := hide HMY
            clear b7
            go_wp2_with fail
            refine Calls.mono HMY.out ?_
            rintro e w8 ⟨rfl, rfl⟩
            have hmk := make_seen
            have H8 := hide (H7.out.newMap)
            have hn6b : (n6 : Int) ≤ 1000 := by have := H7.out.len; have := HN6.out; omega
            have hp6 : 0 < n6 := by
              rw [HN6.out]
              exact List.length_pos_of_mem H7.out.cu
            obtain ⟨g6, o6, rfl⟩ : ∃ g6 o6, A6 = some ⟨g6, o6, none⟩ := by
              have h9 := HS6.out.rd
              rw [← HN6.out] at h9
              exact Rd.some_ h9 hp6
            obtain ⟨mb, hmb⟩ : ∃ mb, mb = w7.heap.size := ⟨_, rfl⟩
            rw [← hmb] at H8
            go_wp2_with fail
            rw [← hmb]
            clear hmb hmk x1 x1b x2 x3 hp6
            go_loopw [15, 16] (fun cv jv wr => ∃ j : Nat, j ≤ n6 ∧ jv = .int .i64 (j : Int) ∧ cv = .bool (decide (s3.cur ∈ s3.order.take j)) ∧ LZ w0 wr sb s3 tx3 (k + 1) ((mb, .map (seenP (s3.order.take j))) :: (rowOf 3 1 (.slice (some ⟨g6, o6, none⟩) n6 c6) n6 (ints s3.order) ++ rowOf 3 1 (.slice B m1 d) m1 (ints F)))) (fun _ jv _ => n6 - (intOf jv).toNat)
            case atStart => exact ⟨0, Nat.zero_le _, rfl, by simp, H8.out⟩
            case round =>
              obtain ⟨j, hj, rfl, rfl, hz9⟩ := hrel
              have H9 := hide hz9
              by_cases hlj : j < n6
              · have u1 : decide (j < n6) = true := by simpa using hlj
                have u2 : decide ((j : Int) < (n6 : Int)) = true := by simp; omega
                have u3 : (j : Int) < (n6 : Int) := by omega
                have HLJ := hide hlj
                obtain ⟨i9, hi9⟩ : ∃ i9, s3.order[j]? = some i9 := ⟨_, List.getElem?_eq_getElem (by rw [← HN6.out]; exact hlj)⟩
                have HI9 := hide hi9
                have hs9 : IntSl wr (.slice (some ⟨g6, o6, none⟩) n6 c6) s3.order := by
                  unfold IntSl
                  rw [← HN6.out]
                  exact hz9.rowSl (fun x hx => List.mem_cons_of_mem _ (List.mem_append_left _ hx)) (by rw [ints_size, HN6.out, Nat.mul_one]) HW6.out
                have HC9 := hide (fun (w' : World) (h' : IntSl w' (.slice (some ⟨g6, o6, none⟩) n6 c6) s3.order) => (show w'.cell? ⟨g6, o6 + j, none⟩ = some (.int .i64 (i9 : Int)) from by
                  have h8 := h'.rd
                  rw [← HN6.out] at h8
                  obtain ⟨g', o', e1, h7⟩ := rd_cells h8 (by have := HLJ.out; omega)
                  obtain ⟨rfl, rfl⟩ : g6 = g' ∧ o6 = o' := by
                    injection e1 with e1
                    injection e1 with e2 e3 _
                    exact ⟨e2, e3⟩
                  exact h7 w' (Below.refl _ _) j _ (ints_at HI9.out)))
                have d9 := HC9.out wr hs9
                have HMP := hide (hz9.ownR.mapIs (g := mb) (List.mem_cons_self ..))
                have hlk := HMP.out.lookup (P := Tryz.prog) (seen_keys _) Tryz.underlying47 Tryz.underlying3 (.int _ (i9 : Int)) (zero_bool wr) false
                rw [seen_get (take_not H7.out.ok.onod hi9)] at hlk
                simp only [Option.getD_none, Bool.false_eq_true, if_false] at hlk
                obtain ⟨w10, hup, hm10, ho10⟩ := HMP.out.update (P := Tryz.prog) (seen_keys _) Tryz.underlying47 Tryz.underlying3 (.int _ (i9 : Int)) (.bool true)
                rw [seen_put (take_not H7.out.ok.onod hi9), ← take_snoc hi9] at hm10
                have H10 := hide (hz9.turnMap ho10 hm10)
                have hs10 : IntSl w10 (.slice (some ⟨g6, o6, none⟩) n6 c6) s3.order := by
                  unfold IntSl
                  rw [← HN6.out]
                  exact H10.out.rowSl (fun x hx => List.mem_cons_of_mem _ (List.mem_append_left _ hx)) (by rw [ints_size, HN6.out, Nat.mul_one]) HW6.out
                have d10 := HC9.out w10 hs10
                have hi10 : i9 < nxt := by rw [HN3.out]; exact H7.out.ok.lt i9 (List.mem_of_getElem? hi9)
                have u4 : decide ((i9 : Int) < 0) = false := by simp
                have u5 : decide ((nxt : Int) ≤ (i9 : Int)) = false := by simp; omega
                have u6 : decide (nxt ≤ i9) = false := by simp; omega
                have HCU := hide (fun (q : Nat) => (show Calls Tryz.prog 21 #[.pointer (some ⟨sb, 0, none⟩)] (w10.drewN q) fun e w' => e = .returned (.int .i64 (s3.cur : Int)) ∧ w' = w10.drewN q from ((H10.out.below (below_drewN (Below.refl _ _) q)).current).mono fun _ _ h9 => ⟨h9.1, h9.2.symm⟩))
                have HTS := hide (show s3.order.take (j + 1) = s3.order.take j ++ [i9] from take_snoc hi9)
                clear hi9 hs9 hs10 hm10 ho10 hz9 hj hlj hi10
                cases hcv : decide (s3.cur ∈ s3.order.take j) with
                | true =>
                  have HCV := hide hcv
                  clear hcv
                  go_upto_region 40 with fail
                  go_quiet (fail)
                  go_wp2_with fail
                  go_roundw
                  case rel => exact ⟨j + 1, HLJ.out, by go_num, by
                    rw [HTS.out]
                    have := of_decide_eq_true HCV.out
                    rw [decide_eq_true (List.mem_append_left _ this)], H10.out.below (below_drewN (Below.refl _ _) _)⟩
                  case measure => have := HLJ.out; simp [intOf]; omega
                | false =>
                  have HCV := hide hcv
                  clear hcv
                  have HEQ := hide (show decide (s3.cur ∈ s3.order.take (j + 1)) = decide (i9 = s3.cur) from by
                    rw [HTS.out]
                    have := of_decide_eq_false HCV.out
                    by_cases e : i9 = s3.cur
                    · rw [decide_eq_true e, decide_eq_true (by rw [e]; exact List.mem_append_right _ (List.mem_cons_self ..))]
                    · rw [decide_eq_false e, decide_eq_false]
                      intro hm
                      rcases List.mem_append.1 hm with hm | hm
                      · exact this hm
                      · exact e (List.mem_singleton.1 hm).symm)
                  go_upto_region 40 with fail
                  by_cases e : i9 = s3.cur
                  · have v1 : ((i9 : Int) == (s3.cur : Int)) = true := by simp [e]
                    have v2 : decide ((i9 : Int) = (s3.cur : Int)) = true := by simp [e]
                    have HE9 := hide e
                    clear e
                    go_quiet ((go_at_call 21; refine Calls.quiet_of_same (HCU.out _)))
                    go_wp2_with fail
                    go_roundw
                    case rel => exact ⟨j + 1, HLJ.out, by go_num, by rw [HEQ.out, decide_eq_true HE9.out], H10.out.below (below_drewN (Below.refl _ _) _)⟩
                    case measure => have := HLJ.out; simp [intOf]; omega
                  · have v1 : ((i9 : Int) == (s3.cur : Int)) = false := by simp; omega
                    have v2 : decide ((i9 : Int) = (s3.cur : Int)) = false := by simp; omega
                    have HE9 := hide e
                    clear e
                    go_quiet ((go_at_call 21; refine Calls.quiet_of_same (HCU.out _)))
                    go_wp2_with fail
                    go_roundw
                    case rel => exact ⟨j + 1, HLJ.out, by go_num, by rw [HEQ.out, decide_eq_false HE9.out], H10.out.below (below_drewN (Below.refl _ _) _)⟩
                    case measure => have := HLJ.out; simp [intOf]; omega
              · have u1 : decide (j < n6) = false := by simpa using hlj
                have u2 : decide ((j : Int) < (n6 : Int)) = false := by simp; omega
                have hjn : j = n6 := by omega
                have HCV := hide (show decide (s3.cur ∈ s3.order.take j) = true from by
                  rw [hjn, List.take_of_length_le (by rw [HN6.out]; exact Nat.le_refl _)]
                  exact decide_eq_true H7.out.cu)
                rw [HCV.out]
                clear hj hlj hz9 hjn
                go_wp2_with fail
                go_roundw
                case rel => exact ⟨k + 1, s3, tx3, F, B, d, nxt, m1, HLT.out, by go_num, rfl, HN3.out, rfl, HM1.out, HROW.out, HPRE2.out, (H9.out.sub (List.sublist_cons_self _ _)).dropL⟩
                case measure => have := HLT.out; simp [intOf]; omega
        have HCN3 := hide hc
        clear hc
        by_cases hc : P0 = 4 ∧ E = 0
        · as_aux_lemma =>
            obtain ⟨hp1, hE0⟩ := hc
            have t1 : decide (P0 < 2) = false := by simp; omega
            have t2 : (E == 0) = true := by simp; omega
            have t3 : decide (E = 0) = true := by simp; omega
            have t4 : (E != 0) = false := by simp; omega
            have t5 : (P0 != 8) = true := by simp; omega
            have t6 : (P0 != 4) = false := by simp; omega
            have t8 : decide (1 < P0) = true := by simp; omega
            have HC := hide (And.intro hp1 hE0)
            have HN3 := hide (show nxt = s3.next from by rw [HNXT.out, if_neg (by have := HC.out; omega)])
            have HPRE2 := hide (show F <+: s3.order from by
              have h9 := HFR.out
              unfold frN at h9
              rwa [if_neg (by have := HC.out; omega)] at h9)
            have H5 := hide (H3.out.dropL)
            clear hp1 hE0 hpc q0 q1 q2
            have HLS5 := hide (H5.out.listO (by omega))
            go_wp2_with fail
            have hnx3 : (nxt : Int) ≤ 62 := by omega
            refine Calls.mono HLS5.out ?_
            rintro e w6 ⟨v6, rfl, s6, f6, b6⟩
            obtain ⟨A6, c6, rfl, hcap, _⟩ := Sl.form s6
            have H6 := hide (H5.out.join b6 s6 f6)
            have HW6 := hide (Sl.rowOk s6)
            obtain ⟨n6, hn6⟩ : ∃ n6, n6 = s3.order.length := ⟨_, rfl⟩
            rw [← hn6] at hcap H6 HW6 ⊢
            have HN6 := hide hn6
            have HLE := hide (show m1 ≤ n6 from by rw [HM1.out, hn6]; exact HPRE2.out.length_le)
            have x1 : decide ((n6 : Int) < (m1 : Int)) = false := by have := HLE.out; simp; omega
            have x1b : decide (n6 < m1) = false := by have := HLE.out; simp; omega
            have x2 : (m1 : Int) ≤ (c6 : Int) := by have := HLE.out; omega
            have x3 : m1 ≤ c6 := by have := HLE.out; omega
            have HTK := hide (show s3.order.take m1 = F from by rw [HM1.out]; exact (List.prefix_iff_eq_take.1 HPRE2.out).symm)
            have HS6 := hide (show IntSl w6 (.slice A6 n6 c6) s3.order from by
              unfold IntSl
              rw [← hn6]
              exact H6.out.rowSl (fun x hx => List.mem_append_left _ hx) (by rw [ints_size, hn6, Nat.mul_one]) HW6.out)
            have HSF := hide (show IntSl w6 (.slice B m1 d) F from by
              unfold IntSl
              rw [← HM1.out]
              exact H6.out.rowSl (fun x hx => List.mem_append_right _ hx) (by rw [ints_size, HM1.out, Nat.mul_one]) HROW.out)
            have HSM := hide (same_ints w6 F m1 m1 A6 B c6 d HM1.out HM1.out (by
                have h9 := HS6.out.rd
                rw [← hn6] at h9
                have h8 := h9.cutI HLE.out
                rwa [HTK.out] at h8) (by
                have h9 := HSF.out.rd
                rwa [← HM1.out] at h9) (by have := H6.out.len; have := HLE.out; have := HM1.out; have := hn60; omega))
            clear s6 f6 b6 HLS5 hn6
            go_wp2_with fail
            refine Calls.mono HSM.out ?_
            rintro e w7 ⟨rfl, b7⟩
            have H7 := hide (H6.out.below b7)
            have HMY := H7.out.many
            rw [← H7.out.ok.len, ← HN6.out] at HMY
            have HMY := hide HMY
            clear b7
            go_wp2_with fail
            refine Calls.mono HMY.out ?_
            rintro e w8 ⟨rfl, rfl⟩
            have hmk := make_seen
            have H8 := hide (H7.out.newMap)
            have hn6b : (n6 : Int) ≤ 1000 := by have := H7.out.len; have := HN6.out; omega
            have hp6 : 0 < n6 := by
              rw [HN6.out]
              exact List.length_pos_of_mem H7.out.cu
            obtain ⟨g6, o6, rfl⟩ : ∃ g6 o6, A6 = some ⟨g6, o6, none⟩ := by
              have h9 := HS6.out.rd
              rw [← HN6.out] at h9
              exact Rd.some_ h9 hp6
            obtain ⟨mb, hmb⟩ : ∃ mb, mb = w7.heap.size := ⟨_, rfl⟩
            rw [← hmb] at H8
            go_wp2_with fail
            rw [← hmb]
            clear hmb hmk x1 x1b x2 x3 hp6
            go_loopw [15, 16] (fun cv jv wr => ∃ j : Nat, j ≤ n6 ∧ jv = .int .i64 (j : Int) ∧ cv = .bool (decide (s3.cur ∈ s3.order.take j)) ∧ LZ w0 wr sb s3 tx3 (k + 1) ((mb, .map (seenP (s3.order.take j))) :: (rowOf 3 1 (.slice (some ⟨g6, o6, none⟩) n6 c6) n6 (ints s3.order) ++ rowOf 3 1 (.slice B m1 d) m1 (ints F)))) (fun _ jv _ => n6 - (intOf jv).toNat)
            case atStart => exact ⟨0, Nat.zero_le _, rfl, by simp, H8.out⟩
            case round =>
              obtain ⟨j, hj, rfl, rfl, hz9⟩ := hrel
              have H9 := hide hz9
              by_cases hlj : j < n6
              · have u1 : decide (j < n6) = true := by simpa using hlj
                have u2 : decide ((j : Int) < (n6 : Int)) = true := by simp; omega
                have u3 : (j : Int) < (n6 : Int) := by omega
                have HLJ := hide hlj
                obtain ⟨i9, hi9⟩ : ∃ i9, s3.order[j]? = some i9 := ⟨_, List.getElem?_eq_getElem (by rw [← HN6.out]; exact hlj)⟩
                have HI9 := hide hi9
                have hs9 : IntSl wr (.slice (some ⟨g6, o6, none⟩) n6 c6) s3.order := by
                  unfold IntSl
                  rw [← HN6.out]
                  exact hz9.rowSl (fun x hx => List.mem_cons_of_mem _ (List.mem_append_left _ hx)) (by rw [ints_size, HN6.out, Nat.mul_one]) HW6.out
                have HC9 := hide (fun (w' : World) (h' : IntSl w' (.slice (some ⟨g6, o6, none⟩) n6 c6) s3.order) => (show w'.cell? ⟨g6, o6 + j, none⟩ = some (.int .i64 (i9 : Int)) from by
                  have h8 := h'.rd
                  rw [← HN6.out] at h8
                  obtain ⟨g', o', e1, h7⟩ := rd_cells h8 (by have := HLJ.out; omega)
                  obtain ⟨rfl, rfl⟩ : g6 = g' ∧ o6 = o' := by
                    injection e1 with e1
                    injection e1 with e2 e3 _
                    exact ⟨e2, e3⟩
                  exact h7 w' (Below.refl _ _) j _ (ints_at HI9.out)))
                have d9 := HC9.out wr hs9
                have HMP := hide (hz9.ownR.mapIs (g := mb) (List.mem_cons_self ..))
                have hlk := HMP.out.lookup (P := Tryz.prog) (seen_keys _) Tryz.underlying47 Tryz.underlying3 (.int _ (i9 : Int)) (zero_bool wr) false
                rw [seen_get (take_not H7.out.ok.onod hi9)] at hlk
                simp only [Option.getD_none, Bool.false_eq_true, if_false] at hlk
                obtain ⟨w10, hup, hm10, ho10⟩ := HMP.out.update (P := Tryz.prog) (seen_keys _) Tryz.underlying47 Tryz.underlying3 (.int _ (i9 : Int)) (.bool true)
                rw [seen_put (take_not H7.out.ok.onod hi9), ← take_snoc hi9] at hm10
                have H10 := hide (hz9.turnMap ho10 hm10)
                have hs10 : IntSl w10 (.slice (some ⟨g6, o6, none⟩) n6 c6) s3.order := by
                  unfold IntSl
                  rw [← HN6.out]
                  exact H10.out.rowSl (fun x hx => List.mem_cons_of_mem _ (List.mem_append_left _ hx)) (by rw [ints_size, HN6.out, Nat.mul_one]) HW6.out
                have d10 := HC9.out w10 hs10
                have hi10 : i9 < nxt := by rw [HN3.out]; exact H7.out.ok.lt i9 (List.mem_of_getElem? hi9)
                have u4 : decide ((i9 : Int) < 0) = false := by simp
                have u5 : decide ((nxt : Int) ≤ (i9 : Int)) = false := by simp; omega
                have u6 : decide (nxt ≤ i9) = false := by simp; omega
                have HCU := hide (fun (q : Nat) => (show Calls Tryz.prog 21 #[.pointer (some ⟨sb, 0, none⟩)] (w10.drewN q) fun e w' => e = .returned (.int .i64 (s3.cur : Int)) ∧ w' = w10.drewN q from ((H10.out.below (below_drewN (Below.refl _ _) q)).current).mono fun _ _ h9 => ⟨h9.1, h9.2.symm⟩))
                have HTS := hide (show s3.order.take (j + 1) = s3.order.take j ++ [i9] from take_snoc hi9)
                clear hi9 hs9 hs10 hm10 ho10 hz9 hj hlj hi10
                cases hcv : decide (s3.cur ∈ s3.order.take j) with
                | true =>
                  have HCV := hide hcv
                  clear hcv
                  go_upto_region 40 with fail
                  go_quiet (fail)
                  go_wp2_with fail
                  go_roundw
                  case rel => exact ⟨j + 1, HLJ.out, by go_num, by
                    rw [HTS.out]
                    have := of_decide_eq_true HCV.out
                    rw [decide_eq_true (List.mem_append_left _ this)], H10.out.below (below_drewN (Below.refl _ _) _)⟩
                  case measure => have := HLJ.out; simp [intOf]; omega
                | false =>
                  have HCV := hide hcv
                  clear hcv
                  have HEQ := hide (show decide (s3.cur ∈ s3.order.take (j + 1)) = decide (i9 = s3.cur) from by
                    rw [HTS.out]
                    have := of_decide_eq_false HCV.out
                    by_cases e : i9 = s3.cur
                    · rw [decide_eq_true e, decide_eq_true (by rw [e]; exact List.mem_append_right _ (List.mem_cons_self ..))]
                    · rw [decide_eq_false e, decide_eq_false]
                      intro hm
                      rcases List.mem_append.1 hm with hm | hm
                      · exact this hm
                      · exact e (List.mem_singleton.1 hm).symm)
                  go_upto_region 40 with fail
                  by_cases e : i9 = s3.cur
                  · have v1 : ((i9 : Int) == (s3.cur : Int)) = true := by simp [e]
                    have v2 : decide ((i9 : Int) = (s3.cur : Int)) = true := by simp [e]
                    have HE9 := hide e
                    clear e
                    go_quiet ((go_at_call 21; refine Calls.quiet_of_same (HCU.out _)))
                    go_wp2_with fail
                    go_roundw
                    case rel => exact ⟨j + 1, HLJ.out, by go_num, by rw [HEQ.out, decide_eq_true HE9.out], H10.out.below (below_drewN (Below.refl _ _) _)⟩
                    case measure => have := HLJ.out; simp [intOf]; omega
                  · have v1 : ((i9 : Int) == (s3.cur : Int)) = false := by simp; omega
                    have v2 : decide ((i9 : Int) = (s3.cur : Int)) = false := by simp; omega
                    have HE9 := hide e
                    clear e
                    go_quiet ((go_at_call 21; refine Calls.quiet_of_same (HCU.out _)))
                    go_wp2_with fail
                    go_roundw
                    case rel => exact ⟨j + 1, HLJ.out, by go_num, by rw [HEQ.out, decide_eq_false HE9.out], H10.out.below (below_drewN (Below.refl _ _) _)⟩
                    case measure => have := HLJ.out; simp [intOf]; omega
              · have u1 : decide (j < n6) = false := by simpa using hlj
                have u2 : decide ((j : Int) < (n6 : Int)) = false := by simp; omega
                have hjn : j = n6 := by omega
                have HCV := hide (show decide (s3.cur ∈ s3.order.take j) = true from by
                  rw [hjn, List.take_of_length_le (by rw [HN6.out]; exact Nat.le_refl _)]
                  exact decide_eq_true H7.out.cu)
                rw [HCV.out]
                clear hj hlj hz9 hjn
                go_wp2_with fail
                go_roundw
                case rel => exact ⟨k + 1, s3, tx3, F, B, d, nxt, m1, HLT.out, by go_num, rfl, HN3.out, rfl, HM1.out, HROW.out, HPRE2.out, (H9.out.sub (List.sublist_cons_self _ _)).dropL⟩
                case measure => have := HLT.out; simp [intOf]; omega
        have HCN4 := hide hc
        clear hc
        by_cases hc : P0 = 3 ∧ E = 0
        · as_aux_lemma =>
            obtain ⟨hp1, hE0⟩ := hc
            have t1 : decide (P0 < 2) = false := by simp; omega
            have t2 : (E == 0) = true := by simp; omega
            have t3 : decide (E = 0) = true := by simp; omega
            have t4 : (E != 0) = false := by simp; omega
            have t5 : (P0 != 8) = true := by simp; omega
            have t6 : (P0 != 4) = true := by simp; omega
            have t7 : (P0 != 3) = false := by simp; omega
            have t8 : decide (1 < P0) = true := by simp; omega
            have HC := hide (And.intro hp1 hE0)
            have HN3 := hide (show nxt = s3.next from by rw [HNXT.out, if_neg (by have := HC.out; omega)])
            have HPRE2 := hide (show F <+: s3.order from by
              have h9 := HFR.out
              unfold frN at h9
              rwa [if_neg (by have := HC.out; omega)] at h9)
            have H5 := hide (H3.out.dropL)
            clear hp1 hE0 hpc q0 q1 q2
            have HLS5 := hide (H5.out.listO (by omega))
            go_wp2_with fail
            have hnx3 : (nxt : Int) ≤ 62 := by omega
            refine Calls.mono HLS5.out ?_
            rintro e w6 ⟨v6, rfl, s6, f6, b6⟩
            obtain ⟨A6, c6, rfl, hcap, _⟩ := Sl.form s6
            have H6 := hide (H5.out.join b6 s6 f6)
            have HW6 := hide (Sl.rowOk s6)
            obtain ⟨n6, hn6⟩ : ∃ n6, n6 = s3.order.length := ⟨_, rfl⟩
            rw [← hn6] at hcap H6 HW6 ⊢
            have HN6 := hide hn6
            have HLE := hide (show m1 ≤ n6 from by rw [HM1.out, hn6]; exact HPRE2.out.length_le)
            have x1 : decide ((n6 : Int) < (m1 : Int)) = false := by have := HLE.out; simp; omega
            have x1b : decide (n6 < m1) = false := by have := HLE.out; simp; omega
            have x2 : (m1 : Int) ≤ (c6 : Int) := by have := HLE.out; omega
            have x3 : m1 ≤ c6 := by have := HLE.out; omega
            have HTK := hide (show s3.order.take m1 = F from by rw [HM1.out]; exact (List.prefix_iff_eq_take.1 HPRE2.out).symm)
            have HS6 := hide (show IntSl w6 (.slice A6 n6 c6) s3.order from by
              unfold IntSl
              rw [← hn6]
              exact H6.out.rowSl (fun x hx => List.mem_append_left _ hx) (by rw [ints_size, hn6, Nat.mul_one]) HW6.out)
            have HSF := hide (show IntSl w6 (.slice B m1 d) F from by
              unfold IntSl
              rw [← HM1.out]
              exact H6.out.rowSl (fun x hx => List.mem_append_right _ hx) (by rw [ints_size, HM1.out, Nat.mul_one]) HROW.out)
            have HSM := hide (same_ints w6 F m1 m1 A6 B c6 d HM1.out HM1.out (by
                have h9 := HS6.out.rd
                rw [← hn6] at h9
                have h8 := h9.cutI HLE.out
                rwa [HTK.out] at h8) (by
                have h9 := HSF.out.rd
                rwa [← HM1.out] at h9) (by have := H6.out.len; have := HLE.out; have := HM1.out; have := hn60; omega))
            clear s6 f6 b6 HLS5 hn6
            go_wp2_with fail
            refine Calls.mono HSM.out ?_
            rintro e w7 ⟨rfl, b7⟩
            have H7 := hide (H6.out.below b7)
            have HMY := H7.out.many
            rw [← H7.out.ok.len, ← HN6.out] at HMY
            have HMY := hide HMY
            clear b7
            go_wp2_with fail
            refine Calls.mono HMY.out ?_
            rintro e w8 ⟨rfl, rfl⟩
            have hmk := make_seen
            have H8 := hide (H7.out.newMap)
            have hn6b : (n6 : Int) ≤ 1000 := by have := H7.out.len; have := HN6.out; omega
            have hp6 : 0 < n6 := by
              rw [HN6.out]
              exact List.length_pos_of_mem H7.out.cu
            obtain ⟨g6, o6, rfl⟩ : ∃ g6 o6, A6 = some ⟨g6, o6, none⟩ := by
              have h9 := HS6.out.rd
              rw [← HN6.out] at h9
              exact Rd.some_ h9 hp6
            obtain ⟨mb, hmb⟩ : ∃ mb, mb = w7.heap.size := ⟨_, rfl⟩
            rw [← hmb] at H8
            go_wp2_with fail
            rw [← hmb]
            clear hmb hmk x1 x1b x2 x3 hp6
            go_loopw [15, 16] (fun cv jv wr => ∃ j : Nat, j ≤ n6 ∧ jv = .int .i64 (j : Int) ∧ cv = .bool (decide (s3.cur ∈ s3.order.take j)) ∧ LZ w0 wr sb s3 tx3 (k + 1) ((mb, .map (seenP (s3.order.take j))) :: (rowOf 3 1 (.slice (some ⟨g6, o6, none⟩) n6 c6) n6 (ints s3.order) ++ rowOf 3 1 (.slice B m1 d) m1 (ints F)))) (fun _ jv _ => n6 - (intOf jv).toNat)
            case atStart => exact ⟨0, Nat.zero_le _, rfl, by simp, H8.out⟩
            case round =>
              obtain ⟨j, hj, rfl, rfl, hz9⟩ := hrel
              have H9 := hide hz9
              by_cases hlj : j < n6
              · have u1 : decide (j < n6) = true := by simpa using hlj
                have u2 : decide ((j : Int) < (n6 : Int)) = true := by simp; omega
                have u3 : (j : Int) < (n6 : Int) := by omega
                have HLJ := hide hlj
                obtain ⟨i9, hi9⟩ : ∃ i9, s3.order[j]? = some i9 := ⟨_, List.getElem?_eq_getElem (by rw [← HN6.out]; exact hlj)⟩
                have HI9 := hide hi9
                have hs9 : IntSl wr (.slice (some ⟨g6, o6, none⟩) n6 c6) s3.order := by
                  unfold IntSl
                  rw [← HN6.out]
                  exact hz9.rowSl (fun x hx => List.mem_cons_of_mem _ (List.mem_append_left _ hx)) (by rw [ints_size, HN6.out, Nat.mul_one]) HW6.out
                have HC9 := hide (fun (w' : World) (h' : IntSl w' (.slice (some ⟨g6, o6, none⟩) n6 c6) s3.order) => (show w'.cell? ⟨g6, o6 + j, none⟩ = some (.int .i64 (i9 : Int)) from by
                  have h8 := h'.rd
                  rw [← HN6.out] at h8
                  obtain ⟨g', o', e1, h7⟩ := rd_cells h8 (by have := HLJ.out; omega)
                  obtain ⟨rfl, rfl⟩ : g6 = g' ∧ o6 = o' := by
                    injection e1 with e1
                    injection e1 with e2 e3 _
                    exact ⟨e2, e3⟩
                  exact h7 w' (Below.refl _ _) j _ (ints_at HI9.out)))
                have d9 := HC9.out wr hs9
                have HMP := hide (hz9.ownR.mapIs (g := mb) (List.mem_cons_self ..))
                have hlk := HMP.out.lookup (P := Tryz.prog) (seen_keys _) Tryz.underlying47 Tryz.underlying3 (.int _ (i9 : Int)) (zero_bool wr) false
                rw [seen_get (take_not H7.out.ok.onod hi9)] at hlk
                simp only [Option.getD_none, Bool.false_eq_true, if_false] at hlk
                obtain ⟨w10, hup, hm10, ho10⟩ := HMP.out.update (P := Tryz.prog) (seen_keys _) Tryz.underlying47 Tryz.underlying3 (.int _ (i9 : Int)) (.bool true)
                rw [seen_put (take_not H7.out.ok.onod hi9), ← take_snoc hi9] at hm10
                have H10 := hide (hz9.turnMap ho10 hm10)
                have hs10 : IntSl w10 (.slice (some ⟨g6, o6, none⟩) n6 c6) s3.order := by
                  unfold IntSl
                  rw [← HN6.out]
                  exact H10.out.rowSl (fun x hx => List.mem_cons_of_mem _ (List.mem_append_left _ hx)) (by rw [ints_size, HN6.out, Nat.mul_one]) HW6.out
                have d10 := HC9.out w10 hs10
                have hi10 : i9 < nxt := by rw [HN3.out]; exact H7.out.ok.lt i9 (List.mem_of_getElem? hi9)
                have u4 : decide ((i9 : Int) < 0) = false := by simp
                have u5 : decide ((nxt : Int) ≤ (i9 : Int)) = false := by simp; omega
                have u6 : decide (nxt ≤ i9) = false := by simp; omega
                have HCU := hide (fun (q : Nat) => (show Calls Tryz.prog 21 #[.pointer (some ⟨sb, 0, none⟩)] (w10.drewN q) fun e w' => e = .returned (.int .i64 (s3.cur : Int)) ∧ w' = w10.drewN q from ((H10.out.below (below_drewN (Below.refl _ _) q)).current).mono fun _ _ h9 => ⟨h9.1, h9.2.symm⟩))
                have HTS := hide (show s3.order.take (j + 1) = s3.order.take j ++ [i9] from take_snoc hi9)
                clear hi9 hs9 hs10 hm10 ho10 hz9 hj hlj hi10
                cases hcv : decide (s3.cur ∈ s3.order.take j) with
                | true =>
                  have HCV := hide hcv
                  clear hcv
                  go_upto_region 40 with fail
                  go_quiet (fail)
                  go_wp2_with fail
                  go_roundw
                  case rel => exact ⟨j + 1, HLJ.out, by go_num, by
                    rw [HTS.out]
                    have := of_decide_eq_true HCV.out
                    rw [decide_eq_true (List.mem_append_left _ this)], H10.out.below (below_drewN (Below.refl _ _) _)⟩
                  case measure => have := HLJ.out; simp [intOf]; omega
                | false =>
                  have HCV := hide hcv
                  clear hcv
                  have HEQ := hide (show decide (s3.cur ∈ s3.order.take (j + 1)) = decide (i9 = s3.cur) from by
                    rw [HTS.out]
                    have := of_decide_eq_false HCV.out
                    by_cases e : i9 = s3.cur
                    · rw [decide_eq_true e, decide_eq_true (by rw [e]; exact List.mem_append_right _ (List.mem_cons_self ..))]
                    · rw [decide_eq_false e, decide_eq_false]
                      intro hm
                      rcases List.mem_append.1 hm with hm | hm
                      · exact this hm
                      · exact e (List.mem_singleton.1 hm).symm)
                  go_upto_region 40 with fail
                  by_cases e : i9 = s3.cur
                  · have v1 : ((i9 : Int) == (s3.cur : Int)) = true := by simp [e]
                    have v2 : decide ((i9 : Int) = (s3.cur : Int)) = true := by simp [e]
                    have HE9 := hide e
                    clear e
                    go_quiet ((go_at_call 21; refine Calls.quiet_of_same (HCU.out _)))
                    go_wp2_with fail
                    go_roundw
                    case rel => exact ⟨j + 1, HLJ.out, by go_num, by rw [HEQ.out, decide_eq_true HE9.out], H10.out.below (below_drewN (Below.refl _ _) _)⟩
                    case measure => have := HLJ.out; simp [intOf]; omega
                  · have v1 : ((i9 : Int) == (s3.cur : Int)) = false := by simp; omega
                    have v2 : decide ((i9 : Int) = (s3.cur : Int)) = false := by simp; omega
                    have HE9 := hide e
                    clear e
                    go_quiet ((go_at_call 21; refine Calls.quiet_of_same (HCU.out _)))
                    go_wp2_with fail
                    go_roundw
                    case rel => exact ⟨j + 1, HLJ.out, by go_num, by rw [HEQ.out, decide_eq_false HE9.out], H10.out.below (below_drewN (Below.refl _ _) _)⟩
                    case measure => have := HLJ.out; simp [intOf]; omega
              · have u1 : decide (j < n6) = false := by simpa using hlj
                have u2 : decide ((j : Int) < (n6 : Int)) = false := by simp; omega
                have hjn : j = n6 := by omega
                have HCV := hide (show decide (s3.cur ∈ s3.order.take j) = true from by
                  rw [hjn, List.take_of_length_le (by rw [HN6.out]; exact Nat.le_refl _)]
                  exact decide_eq_true H7.out.cu)
                rw [HCV.out]
                clear hj hlj hz9 hjn
                go_wp2_with fail
                go_roundw
                case rel => exact ⟨k + 1, s3, tx3, F, B, d, nxt, m1, HLT.out, by go_num, rfl, HN3.out, rfl, HM1.out, HROW.out, HPRE2.out, (H9.out.sub (List.sublist_cons_self _ _)).dropL⟩
                case measure => have := HLT.out; simp [intOf]; omega
        have HCN5 := hide hc
        clear hc
        by_cases hc : (P0 = 2 ∨ P0 = 7) ∧ E = 0
        · as_aux_lemma =>
            obtain ⟨hp1, hE0⟩ := hc
            have t1 : decide (P0 < 2) = false := by simp; omega
            have t2 : (E == 0) = true := by simp; omega
            have t3 : decide (E = 0) = true := by simp; omega
            have t4 : (E != 0) = false := by simp; omega
            have t5 : (P0 != 8) = true := by simp; omega
            have t6 : (P0 != 4) = true := by simp; omega
            have t7 : (P0 != 3) = true := by simp; omega
            have t8 : decide (1 < P0) = true := by simp; omega
            have e5 : (P0 == 5) = false := by simp; omega
            have e5b : decide (P0 = 5) = false := by simp; omega
            have e6 : (P0 == 6) = false := by simp; omega
            have e6b : decide (P0 = 6) = false := by simp; omega
            have HC := hide (And.intro hp1 hE0)
            obtain ⟨jd, hjd⟩ := do_known HOK.out (show doE s tx a = 0 by rw [← HE.out]; exact hE0) (show a.p = 2 ∨ a.p = 5 ∨ a.p = 6 ∨ a.p = 7 by rw [← HP0.out]; omega)
            have HJD := hide hjd
            have HN3 := hide (show nxt = s3.next from by rw [HNXT.out, if_neg (by have := HC.out; omega)])
            have H4 := hide (H3.out.dropL)
            have hm1b : (m1 : Int) ≤ 1000 := by have := HPRE.out.length_le; have := HM1.out; have := HZ.out.len; omega
            obtain ⟨i0, hi, hi1, hi2, hi3⟩ := info_parts info_int
            have HJ := hide hi
            have HJ1 := hide hi1
            have HJ2 := hide hi2
            have HJ3 := hide hi3
            clear hp1 hE0 hpc q0 q1 q2 hjd hi hi1 hi2 hi3
            go_wp2_with fail
            go_loopw [11, 12] (fun rv jv wr => ∃ (j : Nat) (Q : List Nat) (Bq : Option Addr) (mq dq : Nat), j ≤ m1 ∧ jv = .int .i64 (j : Int) ∧ Q = flt (F.take j) a.id ∧ rv = .slice Bq mq dq ∧ mq = Q.length ∧ mq ≤ j ∧ RowOk (.slice Bq mq dq) mq ∧ LZ w0 wr sb s3 tx3 (k + 1) (rowOf 3 1 (.slice Bq mq dq) mq (ints Q) ++ rowOf 3 1 (.slice B m1 d) m1 (ints F))) (fun _ jv _ => m1 - (intOf jv).toNat)
            case atStart => exact ⟨0, [], none, 0, 0, Nat.zero_le _, rfl, rfl, rfl, rfl, Nat.le_refl _, RowOk.nil, H4.out⟩
            case round =>
              obtain ⟨j, Q, Bq, mq, dq, hj, rfl, hQ, rfl, hmq, hmj, hrq, hz5⟩ := hrel
              have HQ := hide hQ
              have HMQ := hide hmq
              have HMJ := hide hmj
              have HRQ := hide hrq
              have HZ5 := hide hz5
              by_cases hlj : j < m1
              · have u1 : decide (j < m1) = true := by simpa using hlj
                have u2 : decide ((j : Int) < (m1 : Int)) = true := by simp; omega
                have u3 : (j : Int) < (m1 : Int) := by omega
                have HLJ := hide hlj
                obtain ⟨f9, hf9⟩ : ∃ f9, F[j]? = some f9 := ⟨_, List.getElem?_eq_getElem (by rw [← HM1.out]; exact hlj)⟩
                have HF9 := hide hf9
                have HFS := hide (fun (w' : World) (h' : LZ w0 w' sb s3 tx3 (k + 1) (rowOf 3 1 (.slice Bq mq dq) mq (ints Q) ++ rowOf 3 1 (.slice B m1 d) m1 (ints F))) => (show Rd w' (.slice B m1 d) 1 m1 (ints F) from (h'.rowSl (fun x hx => List.mem_append_right _ hx) (by rw [ints_size, HM1.out, Nat.mul_one]) HROW.out).rd))
                obtain ⟨gf, of, hBf⟩ := Rd.some_ (HFS.out wr hz5) (by omega)
                subst hBf
                have HFC := hide (fun (w' : World) (h' : LZ w0 w' sb s3 tx3 (k + 1) (rowOf 3 1 (.slice Bq mq dq) mq (ints Q) ++ rowOf 3 1 (.slice (some ⟨gf, of, none⟩) m1 d) m1 (ints F))) => (show w'.cell? ⟨gf, of + j, none⟩ = some (.int .i64 (f9 : Int)) from by
                  obtain ⟨g', o', e1, h7⟩ := rd_cells (HFS.out w' h') (by have := HLJ.out; omega)
                  obtain ⟨rfl, rfl⟩ : gf = g' ∧ of = o' := by
                    injection e1 with e1
                    injection e1 with e2 e3 _
                    exact ⟨e2, e3⟩
                  exact h7 w' (Below.refl _ _) j _ (ints_at HF9.out)))
                have d9 := HFC.out wr hz5
                obtain ⟨_, q1, _⟩ := HCA.out wr hz5.bel
                have HFL := hide (flt_snoc a.id hf9)
                clear hQ hmq hmj hrq hz5 hf9 hj hlj
                go_upto_region 25 with fail
                by_cases hne : (f9 : Int) = a.id
                · have v1 : ((f9 : Int) != a.id) = false := by simp [hne]
                  have HE9 := hide hne
                  clear hne
                  go_quiet (fail)
                  go_wp2_with fail
                  go_roundw
                  case rel => exact ⟨j + 1, Q, Bq, mq, dq, HLJ.out, by go_num, by rw [HFL.out, if_neg (fun h9 => h9 HE9.out)]; exact HQ.out, rfl, HMQ.out, Nat.le_succ_of_le HMJ.out, HRQ.out, HZ5.out.below (below_drewN (Below.refl _ _) _)⟩
                  case measure => have := HLJ.out; simp [intOf]; omega
                · have v1 : ((f9 : Int) != a.id) = true := by simpa using hne
                  have HE9 := hide hne
                  clear hne
                  go_quiet (fail)
                  obtain ⟨wq, hwq⟩ : ∃ y : World, y = wr.drewN nq := ⟨_, rfl⟩
                  rw [← hwq]
                  have H6 := hide (show LZ w0 wq sb s3 tx3 (k + 1) _ from hwq ▸ HZ5.out.below (below_drewN (Below.refl _ _) nq))
                  have d10 := HFC.out wq H6.out
                  have H7 := hide (H6.out.below (below_box' wq (.cells #[.int .i64 (f9 : Int)] 3)))
                  clear d9 hwq
                  go_wp2_with (at_builtin; refine wpList_append_sl rfl (.tmp 100) (.tmp 105) 32 rfl 3 i0 (.int .i64 0) 1 8 Tryz.underlying32 HJ.out HJ1.out HJ2.out HJ3.out rfl _ mq (ints Q) rfl (H7.out.rowSl (fun x hx => List.mem_append_left _ hx) (by rw [ints_size, HMQ.out, Nat.mul_one]) HRQ.out) _ rfl 1 [_] (rd_one _ _ _) ?one ?b1 ?b2 ?_)
                  case one => intro u hu; rcases List.mem_singleton.1 hu with rfl; rfl
                  case b1 => have := HMJ.out; have := HLJ.out; unfold maxLen; omega
                  case b2 => have := HMJ.out; have := HLJ.out; omega
                  intro v8 w8 s8 o8 b8
                  obtain ⟨B8, d8, rfl, _, _⟩ := Sl.form s8
                  have s8' : Sl w8 3 1 (.slice B8 (mq + 1) d8) (mq + 1) (ints (Q ++ [f9])) := by rw [ints_snoc]; exact s8
                  have H8 := hide (H7.out.appended s8' o8 (by rcases b8 with h | h; exact .inl h; exact .inr (h.trans (congrArg some (World.size_alloc ..).symm)) ))
                  have HR8 := hide (Sl.rowOk s8')
                  clear s8 o8 b8 s8' d10
                  go_wp2_with fail
                  go_roundw
                  case rel => exact ⟨j + 1, Q ++ [f9], B8, mq + 1, d8, HLJ.out, by go_num, by rw [HFL.out, if_pos HE9.out, ← HQ.out], rfl, by rw [List.length_append, HMQ.out]; rfl, Nat.succ_le_succ HMJ.out, HR8.out, H8.out⟩
                  case measure => have := HLJ.out; simp [intOf]; omega
              · have u1 : decide (j < m1) = false := by simpa using hlj
                have u2 : decide ((j : Int) < (m1 : Int)) = false := by simp; omega
                have hjm : j = m1 := by omega
                have HQF := hide (show Q = flt F a.id from by rw [HQ.out, hjm, List.take_of_length_le (by rw [HM1.out]; exact Nat.le_refl _)])
                have H8 := hide (hz5.sub (List.sublist_append_left _ _))
                have HMB := hide (show mq ≤ 1000 from by have := HMJ.out; omega)
                clear hQ hmq hmj hrq hz5 hj hlj hjm
                have HPRE2 := hide (show Q <+: s3.order from by
                  have h9 := HFR.out
                  unfold frN at h9
                  rw [if_pos (by have := HC.out; omega), if_neg (by have := HC.out; omega)] at h9
                  rw [HQF.out]
                  exact h9)
                have H5 := H8
                have HLS5 := hide (H5.out.listO (by omega))
                go_wp2_with fail
                have hnx3 : (nxt : Int) ≤ 62 := by omega
                refine Calls.mono HLS5.out ?_
                rintro e w6 ⟨v6, rfl, s6, f6, b6⟩
                obtain ⟨A6, c6, rfl, hcap, _⟩ := Sl.form s6
                have H6 := hide (H5.out.join b6 s6 f6)
                have HW6 := hide (Sl.rowOk s6)
                obtain ⟨n6, hn6⟩ : ∃ n6, n6 = s3.order.length := ⟨_, rfl⟩
                rw [← hn6] at hcap H6 HW6 ⊢
                have HN6 := hide hn6
                have HLE := hide (show mq ≤ n6 from by rw [HMQ.out, hn6]; exact HPRE2.out.length_le)
                have x1 : decide ((n6 : Int) < (mq : Int)) = false := by have := HLE.out; simp; omega
                have x1b : decide (n6 < mq) = false := by have := HLE.out; simp; omega
                have x2 : (mq : Int) ≤ (c6 : Int) := by have := HLE.out; omega
                have x3 : mq ≤ c6 := by have := HLE.out; omega
                have HTK := hide (show s3.order.take mq = Q from by rw [HMQ.out]; exact (List.prefix_iff_eq_take.1 HPRE2.out).symm)
                have HS6 := hide (show IntSl w6 (.slice A6 n6 c6) s3.order from by
                  unfold IntSl
                  rw [← hn6]
                  exact H6.out.rowSl (fun x hx => List.mem_append_left _ hx) (by rw [ints_size, hn6, Nat.mul_one]) HW6.out)
                have HSF := hide (show IntSl w6 (.slice Bq mq dq) Q from by
                  unfold IntSl
                  rw [← HMQ.out]
                  exact H6.out.rowSl (fun x hx => List.mem_append_right _ hx) (by rw [ints_size, HMQ.out, Nat.mul_one]) HRQ.out)
                have HSM := hide (same_ints w6 Q mq mq A6 Bq c6 dq HMQ.out HMQ.out (by
                    have h9 := HS6.out.rd
                    rw [← hn6] at h9
                    have h8 := h9.cutI HLE.out
                    rwa [HTK.out] at h8) (by
                    have h9 := HSF.out.rd
                    rwa [← HMQ.out] at h9) (by have := H6.out.len; have := HLE.out; have := HMQ.out; have := hn60; omega))
                clear s6 f6 b6 HLS5 hn6
                go_wp2_with fail
                refine Calls.mono HSM.out ?_
                rintro e w7 ⟨rfl, b7⟩
                have H7 := hide (H6.out.below b7)
                have HMY := H7.out.many
                rw [← H7.out.ok.len, ← HN6.out] at HMY
                have HMY := hide HMY
                clear b7
                go_wp2_with fail
                refine Calls.mono HMY.out ?_
                rintro e w8 ⟨rfl, rfl⟩
                have hmk := make_seen
                have H8 := hide (H7.out.newMap)
                have hn6b : (n6 : Int) ≤ 1000 := by have := H7.out.len; have := HN6.out; omega
                have hp6 : 0 < n6 := by
                  rw [HN6.out]
                  exact List.length_pos_of_mem H7.out.cu
                obtain ⟨g6, o6, rfl⟩ : ∃ g6 o6, A6 = some ⟨g6, o6, none⟩ := by
                  have h9 := HS6.out.rd
                  rw [← HN6.out] at h9
                  exact Rd.some_ h9 hp6
                obtain ⟨mb, hmb⟩ : ∃ mb, mb = w7.heap.size := ⟨_, rfl⟩
                rw [← hmb] at H8
                go_wp2_with fail
                rw [← hmb]
                clear hmb hmk x1 x1b x2 x3 hp6
                go_loopw [15, 16] (fun cv jv wr => ∃ j : Nat, j ≤ n6 ∧ jv = .int .i64 (j : Int) ∧ cv = .bool (decide (s3.cur ∈ s3.order.take j)) ∧ LZ w0 wr sb s3 tx3 (k + 1) ((mb, .map (seenP (s3.order.take j))) :: (rowOf 3 1 (.slice (some ⟨g6, o6, none⟩) n6 c6) n6 (ints s3.order) ++ rowOf 3 1 (.slice Bq mq dq) mq (ints Q)))) (fun _ jv _ => n6 - (intOf jv).toNat)
                case atStart => exact ⟨0, Nat.zero_le _, rfl, by simp, H8.out⟩
                case round =>
                  obtain ⟨j, hj, rfl, rfl, hz9⟩ := hrel
                  have H9 := hide hz9
                  by_cases hlj : j < n6
                  · have u1 : decide (j < n6) = true := by simpa using hlj
                    have u2 : decide ((j : Int) < (n6 : Int)) = true := by simp; omega
                    have u3 : (j : Int) < (n6 : Int) := by omega
                    have HLJ := hide hlj
                    obtain ⟨i9, hi9⟩ : ∃ i9, s3.order[j]? = some i9 := ⟨_, List.getElem?_eq_getElem (by rw [← HN6.out]; exact hlj)⟩
                    have HI9 := hide hi9
                    have hs9 : IntSl wr (.slice (some ⟨g6, o6, none⟩) n6 c6) s3.order := by
                      unfold IntSl
                      rw [← HN6.out]
                      exact hz9.rowSl (fun x hx => List.mem_cons_of_mem _ (List.mem_append_left _ hx)) (by rw [ints_size, HN6.out, Nat.mul_one]) HW6.out
                    have HC9 := hide (fun (w' : World) (h' : IntSl w' (.slice (some ⟨g6, o6, none⟩) n6 c6) s3.order) => (show w'.cell? ⟨g6, o6 + j, none⟩ = some (.int .i64 (i9 : Int)) from by
                      have h8 := h'.rd
                      rw [← HN6.out] at h8
                      obtain ⟨g', o', e1, h7⟩ := rd_cells h8 (by have := HLJ.out; omega)
                      obtain ⟨rfl, rfl⟩ : g6 = g' ∧ o6 = o' := by
                        injection e1 with e1
                        injection e1 with e2 e3 _
                        exact ⟨e2, e3⟩
                      exact h7 w' (Below.refl _ _) j _ (ints_at HI9.out)))
                    have d9 := HC9.out wr hs9
                    have HMP := hide (hz9.ownR.mapIs (g := mb) (List.mem_cons_self ..))
                    have hlk := HMP.out.lookup (P := Tryz.prog) (seen_keys _) Tryz.underlying47 Tryz.underlying3 (.int _ (i9 : Int)) (zero_bool wr) false
                    rw [seen_get (take_not H7.out.ok.onod hi9)] at hlk
                    simp only [Option.getD_none, Bool.false_eq_true, if_false] at hlk
                    obtain ⟨w10, hup, hm10, ho10⟩ := HMP.out.update (P := Tryz.prog) (seen_keys _) Tryz.underlying47 Tryz.underlying3 (.int _ (i9 : Int)) (.bool true)
                    rw [seen_put (take_not H7.out.ok.onod hi9), ← take_snoc hi9] at hm10
                    have H10 := hide (hz9.turnMap ho10 hm10)
                    have hs10 : IntSl w10 (.slice (some ⟨g6, o6, none⟩) n6 c6) s3.order := by
                      unfold IntSl
                      rw [← HN6.out]
                      exact H10.out.rowSl (fun x hx => List.mem_cons_of_mem _ (List.mem_append_left _ hx)) (by rw [ints_size, HN6.out, Nat.mul_one]) HW6.out
                    have d10 := HC9.out w10 hs10
                    have hi10 : i9 < nxt := by rw [HN3.out]; exact H7.out.ok.lt i9 (List.mem_of_getElem? hi9)
                    have u4 : decide ((i9 : Int) < 0) = false := by simp
                    have u5 : decide ((nxt : Int) ≤ (i9 : Int)) = false := by simp; omega
                    have u6 : decide (nxt ≤ i9) = false := by simp; omega
                    have HCU := hide (fun (q : Nat) => (show Calls Tryz.prog 21 #[.pointer (some ⟨sb, 0, none⟩)] (w10.drewN q) fun e w' => e = .returned (.int .i64 (s3.cur : Int)) ∧ w' = w10.drewN q from ((H10.out.below (below_drewN (Below.refl _ _) q)).current).mono fun _ _ h9 => ⟨h9.1, h9.2.symm⟩))
                    have HTS := hide (show s3.order.take (j + 1) = s3.order.take j ++ [i9] from take_snoc hi9)
                    clear hi9 hs9 hs10 hm10 ho10 hz9 hj hlj hi10
                    cases hcv : decide (s3.cur ∈ s3.order.take j) with
                    | true =>
                      have HCV := hide hcv
                      clear hcv
                      go_upto_region 40 with fail
                      go_quiet (fail)
                      go_wp2_with fail
                      go_roundw
                      case rel => exact ⟨j + 1, HLJ.out, by go_num, by
                        rw [HTS.out]
                        have := of_decide_eq_true HCV.out
                        rw [decide_eq_true (List.mem_append_left _ this)], H10.out.below (below_drewN (Below.refl _ _) _)⟩
                      case measure => have := HLJ.out; simp [intOf]; omega
                    | false =>
                      have HCV := hide hcv
                      clear hcv
                      have HEQ := hide (show decide (s3.cur ∈ s3.order.take (j + 1)) = decide (i9 = s3.cur) from by
                        rw [HTS.out]
                        have := of_decide_eq_false HCV.out
                        by_cases e : i9 = s3.cur
                        · rw [decide_eq_true e, decide_eq_true (by rw [e]; exact List.mem_append_right _ (List.mem_cons_self ..))]
                        · rw [decide_eq_false e, decide_eq_false]
                          intro hm
                          rcases List.mem_append.1 hm with hm | hm
                          · exact this hm
                          · exact e (List.mem_singleton.1 hm).symm)
                      go_upto_region 40 with fail
                      by_cases e : i9 = s3.cur
                      · have v1 : ((i9 : Int) == (s3.cur : Int)) = true := by simp [e]
                        have v2 : decide ((i9 : Int) = (s3.cur : Int)) = true := by simp [e]
                        have HE9 := hide e
                        clear e
                        go_quiet ((go_at_call 21; refine Calls.quiet_of_same (HCU.out _)))
                        go_wp2_with fail
                        go_roundw
                        case rel => exact ⟨j + 1, HLJ.out, by go_num, by rw [HEQ.out, decide_eq_true HE9.out], H10.out.below (below_drewN (Below.refl _ _) _)⟩
                        case measure => have := HLJ.out; simp [intOf]; omega
                      · have v1 : ((i9 : Int) == (s3.cur : Int)) = false := by simp; omega
                        have v2 : decide ((i9 : Int) = (s3.cur : Int)) = false := by simp; omega
                        have HE9 := hide e
                        clear e
                        go_quiet ((go_at_call 21; refine Calls.quiet_of_same (HCU.out _)))
                        go_wp2_with fail
                        go_roundw
                        case rel => exact ⟨j + 1, HLJ.out, by go_num, by rw [HEQ.out, decide_eq_false HE9.out], H10.out.below (below_drewN (Below.refl _ _) _)⟩
                        case measure => have := HLJ.out; simp [intOf]; omega
                  · have u1 : decide (j < n6) = false := by simpa using hlj
                    have u2 : decide ((j : Int) < (n6 : Int)) = false := by simp; omega
                    have hjn : j = n6 := by omega
                    have HCV := hide (show decide (s3.cur ∈ s3.order.take j) = true from by
                      rw [hjn, List.take_of_length_le (by rw [HN6.out]; exact Nat.le_refl _)]
                      exact decide_eq_true H7.out.cu)
                    rw [HCV.out]
                    clear hj hlj hz9 hjn
                    go_wp2_with fail
                    go_roundw
                    case rel => exact ⟨k + 1, s3, tx3, Q, Bq, dq, nxt, mq, HLT.out, by go_num, rfl, HN3.out, rfl, HMQ.out, HRQ.out, HPRE2.out, (H9.out.sub (List.sublist_cons_self _ _)).dropL⟩
                    case measure => have := HLT.out; simp [intOf]; omega
        have HCN6 := hide hc
        clear hc
        by_cases hc : P0 = 5 ∧ E = 0
        · as_aux_lemma =>
            obtain ⟨hp1, hE0⟩ := hc
            have t1 : decide (P0 < 2) = false := by simp; omega
            have t2 : (E == 0) = true := by simp; omega
            have t3 : decide (E = 0) = true := by simp; omega
            have t4 : (E != 0) = false := by simp; omega
            have t5 : (P0 != 8) = true := by simp; omega
            have t6 : (P0 != 4) = true := by simp; omega
            have t7 : (P0 != 3) = true := by simp; omega
            have t8 : decide (1 < P0) = true := by simp; omega
            have e5 : (P0 == 5) = true := by simp; omega
            have e5b : decide (P0 = 5) = true := by simp; omega
            have HC := hide (And.intro hp1 hE0)
            obtain ⟨jd, hjd⟩ := do_known HOK.out (show doE s tx a = 0 by rw [← HE.out]; exact hE0) (show a.p = 2 ∨ a.p = 5 ∨ a.p = 6 ∨ a.p = 7 by rw [← HP0.out]; omega)
            have HJD := hide hjd
            have HN3 := hide (show nxt = s3.next from by rw [HNXT.out, if_neg (by have := HC.out; omega)])
            have H4 := hide (H3.out.dropL)
            have hm1b : (m1 : Int) ≤ 1000 := by have := HPRE.out.length_le; have := HM1.out; have := HZ.out.len; omega
            obtain ⟨i0, hi, hi1, hi2, hi3⟩ := info_parts info_int
            have HJ := hide hi
            have HJ1 := hide hi1
            have HJ2 := hide hi2
            have HJ3 := hide hi3
            clear hp1 hE0 hpc q0 q1 q2 hjd hi hi1 hi2 hi3
            go_wp2_with fail
            go_loopw [11, 12] (fun rv jv wr => ∃ (j : Nat) (Q : List Nat) (Bq : Option Addr) (mq dq : Nat), j ≤ m1 ∧ jv = .int .i64 (j : Int) ∧ Q = flt (F.take j) a.id ∧ rv = .slice Bq mq dq ∧ mq = Q.length ∧ mq ≤ j ∧ RowOk (.slice Bq mq dq) mq ∧ LZ w0 wr sb s3 tx3 (k + 1) (rowOf 3 1 (.slice Bq mq dq) mq (ints Q) ++ rowOf 3 1 (.slice B m1 d) m1 (ints F))) (fun _ jv _ => m1 - (intOf jv).toNat)
            case atStart => exact ⟨0, [], none, 0, 0, Nat.zero_le _, rfl, rfl, rfl, rfl, Nat.le_refl _, RowOk.nil, H4.out⟩
            case round =>
              obtain ⟨j, Q, Bq, mq, dq, hj, rfl, hQ, rfl, hmq, hmj, hrq, hz5⟩ := hrel
              have HQ := hide hQ
              have HMQ := hide hmq
              have HMJ := hide hmj
              have HRQ := hide hrq
              have HZ5 := hide hz5
              by_cases hlj : j < m1
              · have u1 : decide (j < m1) = true := by simpa using hlj
                have u2 : decide ((j : Int) < (m1 : Int)) = true := by simp; omega
                have u3 : (j : Int) < (m1 : Int) := by omega
                have HLJ := hide hlj
                obtain ⟨f9, hf9⟩ : ∃ f9, F[j]? = some f9 := ⟨_, List.getElem?_eq_getElem (by rw [← HM1.out]; exact hlj)⟩
                have HF9 := hide hf9
                have HFS := hide (fun (w' : World) (h' : LZ w0 w' sb s3 tx3 (k + 1) (rowOf 3 1 (.slice Bq mq dq) mq (ints Q) ++ rowOf 3 1 (.slice B m1 d) m1 (ints F))) => (show Rd w' (.slice B m1 d) 1 m1 (ints F) from (h'.rowSl (fun x hx => List.mem_append_right _ hx) (by rw [ints_size, HM1.out, Nat.mul_one]) HROW.out).rd))
                obtain ⟨gf, of, hBf⟩ := Rd.some_ (HFS.out wr hz5) (by omega)
                subst hBf
                have HFC := hide (fun (w' : World) (h' : LZ w0 w' sb s3 tx3 (k + 1) (rowOf 3 1 (.slice Bq mq dq) mq (ints Q) ++ rowOf 3 1 (.slice (some ⟨gf, of, none⟩) m1 d) m1 (ints F))) => (show w'.cell? ⟨gf, of + j, none⟩ = some (.int .i64 (f9 : Int)) from by
                  obtain ⟨g', o', e1, h7⟩ := rd_cells (HFS.out w' h') (by have := HLJ.out; omega)
                  obtain ⟨rfl, rfl⟩ : gf = g' ∧ of = o' := by
                    injection e1 with e1
                    injection e1 with e2 e3 _
                    exact ⟨e2, e3⟩
                  exact h7 w' (Below.refl _ _) j _ (ints_at HF9.out)))
                have d9 := HFC.out wr hz5
                obtain ⟨_, q1, _⟩ := HCA.out wr hz5.bel
                have HFL := hide (flt_snoc a.id hf9)
                clear hQ hmq hmj hrq hz5 hf9 hj hlj
                go_upto_region 25 with fail
                by_cases hne : (f9 : Int) = a.id
                · have v1 : ((f9 : Int) != a.id) = false := by simp [hne]
                  have HE9 := hide hne
                  clear hne
                  go_quiet (fail)
                  go_wp2_with fail
                  go_roundw
                  case rel => exact ⟨j + 1, Q, Bq, mq, dq, HLJ.out, by go_num, by rw [HFL.out, if_neg (fun h9 => h9 HE9.out)]; exact HQ.out, rfl, HMQ.out, Nat.le_succ_of_le HMJ.out, HRQ.out, HZ5.out.below (below_drewN (Below.refl _ _) _)⟩
                  case measure => have := HLJ.out; simp [intOf]; omega
                · have v1 : ((f9 : Int) != a.id) = true := by simpa using hne
                  have HE9 := hide hne
                  clear hne
                  go_quiet (fail)
                  obtain ⟨wq, hwq⟩ : ∃ y : World, y = wr.drewN nq := ⟨_, rfl⟩
                  rw [← hwq]
                  have H6 := hide (show LZ w0 wq sb s3 tx3 (k + 1) _ from hwq ▸ HZ5.out.below (below_drewN (Below.refl _ _) nq))
                  have d10 := HFC.out wq H6.out
                  have H7 := hide (H6.out.below (below_box' wq (.cells #[.int .i64 (f9 : Int)] 3)))
                  clear d9 hwq
                  go_wp2_with (at_builtin; refine wpList_append_sl rfl (.tmp 100) (.tmp 105) 32 rfl 3 i0 (.int .i64 0) 1 8 Tryz.underlying32 HJ.out HJ1.out HJ2.out HJ3.out rfl _ mq (ints Q) rfl (H7.out.rowSl (fun x hx => List.mem_append_left _ hx) (by rw [ints_size, HMQ.out, Nat.mul_one]) HRQ.out) _ rfl 1 [_] (rd_one _ _ _) ?one ?b1 ?b2 ?_)
                  case one => intro u hu; rcases List.mem_singleton.1 hu with rfl; rfl
                  case b1 => have := HMJ.out; have := HLJ.out; unfold maxLen; omega
                  case b2 => have := HMJ.out; have := HLJ.out; omega
                  intro v8 w8 s8 o8 b8
                  obtain ⟨B8, d8, rfl, _, _⟩ := Sl.form s8
                  have s8' : Sl w8 3 1 (.slice B8 (mq + 1) d8) (mq + 1) (ints (Q ++ [f9])) := by rw [ints_snoc]; exact s8
                  have H8 := hide (H7.out.appended s8' o8 (by rcases b8 with h | h; exact .inl h; exact .inr (h.trans (congrArg some (World.size_alloc ..).symm)) ))
                  have HR8 := hide (Sl.rowOk s8')
                  clear s8 o8 b8 s8' d10
                  go_wp2_with fail
                  go_roundw
                  case rel => exact ⟨j + 1, Q ++ [f9], B8, mq + 1, d8, HLJ.out, by go_num, by rw [HFL.out, if_pos HE9.out, ← HQ.out], rfl, by rw [List.length_append, HMQ.out]; rfl, Nat.succ_le_succ HMJ.out, HR8.out, H8.out⟩
                  case measure => have := HLJ.out; simp [intOf]; omega
              · have u1 : decide (j < m1) = false := by simpa using hlj
                have u2 : decide ((j : Int) < (m1 : Int)) = false := by simp; omega
                have hjm : j = m1 := by omega
                have HQF := hide (show Q = flt F a.id from by rw [HQ.out, hjm, List.take_of_length_le (by rw [HM1.out]; exact Nat.le_refl _)])
                have H8 := hide (hz5.sub (List.sublist_append_left _ _))
                have HMB := hide (show mq ≤ 1000 from by have := HMJ.out; omega)
                clear hQ hmq hmj hrq hz5 hj hlj hjm
                obtain ⟨_, q1, _⟩ := HCA.out wr H8.out.bel
                rw [HJD.out] at q1
                have s9 := Sl.new wr 3 1 #[.int .i64 (jd : Int)] 1 1 (Nat.le_refl _) (by simp [maxLen]) (by simp)
                have s9' : Sl (wr.alloc (.cells #[.int .i64 (jd : Int)] 3)) 3 1 (.slice (some ⟨wr.heap.size, 0, none⟩) 1 1) 1 (ints [jd]) := by simpa [ints] using s9
                have H9 := hide (H8.out.join (below_box' wr _) s9' (by intro g' hg'; simp [Value.ownBlock] at hg'; omega))
                have HS9 := hide s9'
                have HRD9 := hide (show Rd (wr.alloc (.cells #[.int .i64 (jd : Int)] 3)) (.slice Bq mq dq) 1 mq (ints Q) from (H9.out.rowSl (fun x hx => List.mem_append_right _ hx) (by rw [ints_size, HMQ.out, Nat.mul_one]) HRQ.out).rd)
                clear s9 s9'
                go_wp2_with (at_builtin; refine wpList_append_sl rfl (.tmp 119) (.tmp 120) 32 rfl 3 i0 (.int .i64 0) 1 8 Tryz.underlying32 HJ.out HJ1.out HJ2.out HJ3.out rfl _ 1 (ints [jd]) rfl HS9.out _ rfl mq (ints Q) HRD9.out (ints_one _) ?b1 ?b2 ?_)
                case b1 => have := HMB.out; unfold maxLen; omega
                case b2 => have := HMB.out; omega
                intro v10 w10 s10 o10 b10
                obtain ⟨B10, d10, rfl, _, _⟩ := Sl.form s10
                have s10' : Sl w10 3 1 (.slice B10 (1 + mq) d10) (1 + mq) (ints (jd :: Q)) := by simpa [ints] using s10
                have H10 := hide (H9.out.appended s10' o10 (by rcases b10 with h | h; exact .inl h; exact .inr (h.trans (congrArg some (World.size_alloc ..).symm))))
                have HR10 := hide (Sl.rowOk s10')
                have HM10 := hide (show 1 + mq = (jd :: Q).length from by rw [List.length_cons, HMQ.out]; omega)
                obtain ⟨m10, hm10⟩ : ∃ m10, m10 = 1 + mq := ⟨_, rfl⟩
                rw [← hm10] at H10 HR10 HM10 ⊢
                have HPRE2 := hide (show jd :: Q <+: s3.order from by
                  have h9 := HFR.out
                  unfold frN at h9
                  rw [if_pos (by have := HC.out; omega), if_pos (by have := HC.out; omega)] at h9
                  rw [HQF.out]
                  rw [show a.id.toNat = jd by rw [HJD.out]; rfl] at h9
                  exact h9)
                have H5 := hide (H10.out.sub (List.sublist_append_left _ _))
                clear s10 o10 b10 s10' hm10 q1
                have HLS5 := hide (H5.out.listO (by omega))
                go_wp2_with fail
                have hnx3 : (nxt : Int) ≤ 62 := by omega
                refine Calls.mono HLS5.out ?_
                rintro e w6 ⟨v6, rfl, s6, f6, b6⟩
                obtain ⟨A6, c6, rfl, hcap, _⟩ := Sl.form s6
                have H6 := hide (H5.out.join b6 s6 f6)
                have HW6 := hide (Sl.rowOk s6)
                obtain ⟨n6, hn6⟩ : ∃ n6, n6 = s3.order.length := ⟨_, rfl⟩
                rw [← hn6] at hcap H6 HW6 ⊢
                have HN6 := hide hn6
                have HLE := hide (show m10 ≤ n6 from by rw [HM10.out, hn6]; exact HPRE2.out.length_le)
                have x1 : decide ((n6 : Int) < (m10 : Int)) = false := by have := HLE.out; simp; omega
                have x1b : decide (n6 < m10) = false := by have := HLE.out; simp; omega
                have x2 : (m10 : Int) ≤ (c6 : Int) := by have := HLE.out; omega
                have x3 : m10 ≤ c6 := by have := HLE.out; omega
                have HTK := hide (show s3.order.take m10 = (jd :: Q) from by rw [HM10.out]; exact (List.prefix_iff_eq_take.1 HPRE2.out).symm)
                have HS6 := hide (show IntSl w6 (.slice A6 n6 c6) s3.order from by
                  unfold IntSl
                  rw [← hn6]
                  exact H6.out.rowSl (fun x hx => List.mem_append_left _ hx) (by rw [ints_size, hn6, Nat.mul_one]) HW6.out)
                have HSF := hide (show IntSl w6 (.slice B10 m10 d10) (jd :: Q) from by
                  unfold IntSl
                  rw [← HM10.out]
                  exact H6.out.rowSl (fun x hx => List.mem_append_right _ hx) (by rw [ints_size, HM10.out, Nat.mul_one]) HR10.out)
                have HSM := hide (same_ints w6 (jd :: Q) m10 m10 A6 B10 c6 d10 HM10.out HM10.out (by
                    have h9 := HS6.out.rd
                    rw [← hn6] at h9
                    have h8 := h9.cutI HLE.out
                    rwa [HTK.out] at h8) (by
                    have h9 := HSF.out.rd
                    rwa [← HM10.out] at h9) (by have := H6.out.len; have := HLE.out; have := HM10.out; have := hn60; omega))
                clear s6 f6 b6 HLS5 hn6
                go_wp2_with fail
                refine Calls.mono HSM.out ?_
                rintro e w7 ⟨rfl, b7⟩
                have H7 := hide (H6.out.below b7)
                have HMY := H7.out.many
                rw [← H7.out.ok.len, ← HN6.out] at HMY
                have HMY := hide HMY
                clear b7
                go_wp2_with fail
                refine Calls.mono HMY.out ?_
                rintro e w8 ⟨rfl, rfl⟩
                have hmk := make_seen
                have H8 := hide (H7.out.newMap)
                have hn6b : (n6 : Int) ≤ 1000 := by have := H7.out.len; have := HN6.out; omega
                have hp6 : 0 < n6 := by
                  rw [HN6.out]
                  exact List.length_pos_of_mem H7.out.cu
                obtain ⟨g6, o6, rfl⟩ : ∃ g6 o6, A6 = some ⟨g6, o6, none⟩ := by
                  have h9 := HS6.out.rd
                  rw [← HN6.out] at h9
                  exact Rd.some_ h9 hp6
                obtain ⟨mb, hmb⟩ : ∃ mb, mb = w7.heap.size := ⟨_, rfl⟩
                rw [← hmb] at H8
                go_wp2_with fail
                rw [← hmb]
                clear hmb hmk x1 x1b x2 x3 hp6
                go_loopw [15, 16] (fun cv jv wr => ∃ j : Nat, j ≤ n6 ∧ jv = .int .i64 (j : Int) ∧ cv = .bool (decide (s3.cur ∈ s3.order.take j)) ∧ LZ w0 wr sb s3 tx3 (k + 1) ((mb, .map (seenP (s3.order.take j))) :: (rowOf 3 1 (.slice (some ⟨g6, o6, none⟩) n6 c6) n6 (ints s3.order) ++ rowOf 3 1 (.slice B10 m10 d10) m10 (ints (jd :: Q))))) (fun _ jv _ => n6 - (intOf jv).toNat)
                case atStart => exact ⟨0, Nat.zero_le _, rfl, by simp, H8.out⟩
                case round =>
                  obtain ⟨j, hj, rfl, rfl, hz9⟩ := hrel
                  have H9 := hide hz9
                  by_cases hlj : j < n6
                  · have u1 : decide (j < n6) = true := by simpa using hlj
                    have u2 : decide ((j : Int) < (n6 : Int)) = true := by simp; omega
                    have u3 : (j : Int) < (n6 : Int) := by omega
                    have HLJ := hide hlj
                    obtain ⟨i9, hi9⟩ : ∃ i9, s3.order[j]? = some i9 := ⟨_, List.getElem?_eq_getElem (by rw [← HN6.out]; exact hlj)⟩
                    have HI9 := hide hi9
                    have hs9 : IntSl wr (.slice (some ⟨g6, o6, none⟩) n6 c6) s3.order := by
                      unfold IntSl
                      rw [← HN6.out]
                      exact hz9.rowSl (fun x hx => List.mem_cons_of_mem _ (List.mem_append_left _ hx)) (by rw [ints_size, HN6.out, Nat.mul_one]) HW6.out
                    have HC9 := hide (fun (w' : World) (h' : IntSl w' (.slice (some ⟨g6, o6, none⟩) n6 c6) s3.order) => (show w'.cell? ⟨g6, o6 + j, none⟩ = some (.int .i64 (i9 : Int)) from by
                      have h8 := h'.rd
                      rw [← HN6.out] at h8
                      obtain ⟨g', o', e1, h7⟩ := rd_cells h8 (by have := HLJ.out; omega)
                      obtain ⟨rfl, rfl⟩ : g6 = g' ∧ o6 = o' := by
                        injection e1 with e1
                        injection e1 with e2 e3 _
                        exact ⟨e2, e3⟩
                      exact h7 w' (Below.refl _ _) j _ (ints_at HI9.out)))
                    have d9 := HC9.out wr hs9
                    have HMP := hide (hz9.ownR.mapIs (g := mb) (List.mem_cons_self ..))
                    have hlk := HMP.out.lookup (P := Tryz.prog) (seen_keys _) Tryz.underlying47 Tryz.underlying3 (.int _ (i9 : Int)) (zero_bool wr) false
                    rw [seen_get (take_not H7.out.ok.onod hi9)] at hlk
                    simp only [Option.getD_none, Bool.false_eq_true, if_false] at hlk
                    obtain ⟨w10, hup, hm10, ho10⟩ := HMP.out.update (P := Tryz.prog) (seen_keys _) Tryz.underlying47 Tryz.underlying3 (.int _ (i9 : Int)) (.bool true)
                    rw [seen_put (take_not H7.out.ok.onod hi9), ← take_snoc hi9] at hm10
                    have H10 := hide (hz9.turnMap ho10 hm10)
                    have hs10 : IntSl w10 (.slice (some ⟨g6, o6, none⟩) n6 c6) s3.order := by
                      unfold IntSl
                      rw [← HN6.out]
                      exact H10.out.rowSl (fun x hx => List.mem_cons_of_mem _ (List.mem_append_left _ hx)) (by rw [ints_size, HN6.out, Nat.mul_one]) HW6.out
                    have d10 := HC9.out w10 hs10
                    have hi10 : i9 < nxt := by rw [HN3.out]; exact H7.out.ok.lt i9 (List.mem_of_getElem? hi9)
                    have u4 : decide ((i9 : Int) < 0) = false := by simp
                    have u5 : decide ((nxt : Int) ≤ (i9 : Int)) = false := by simp; omega
                    have u6 : decide (nxt ≤ i9) = false := by simp; omega
                    have HCU := hide (fun (q : Nat) => (show Calls Tryz.prog 21 #[.pointer (some ⟨sb, 0, none⟩)] (w10.drewN q) fun e w' => e = .returned (.int .i64 (s3.cur : Int)) ∧ w' = w10.drewN q from ((H10.out.below (below_drewN (Below.refl _ _) q)).current).mono fun _ _ h9 => ⟨h9.1, h9.2.symm⟩))
                    have HTS := hide (show s3.order.take (j + 1) = s3.order.take j ++ [i9] from take_snoc hi9)
                    clear hi9 hs9 hs10 hm10 ho10 hz9 hj hlj hi10
                    cases hcv : decide (s3.cur ∈ s3.order.take j) with
                    | true =>
                      have HCV := hide hcv
                      clear hcv
                      go_upto_region 40 with fail
                      go_quiet (fail)
                      go_wp2_with fail
                      go_roundw
                      case rel => exact ⟨j + 1, HLJ.out, by go_num, by
                        rw [HTS.out]
                        have := of_decide_eq_true HCV.out
                        rw [decide_eq_true (List.mem_append_left _ this)], H10.out.below (below_drewN (Below.refl _ _) _)⟩
                      case measure => have := HLJ.out; simp [intOf]; omega
                    | false =>
                      have HCV := hide hcv
                      clear hcv
                      have HEQ := hide (show decide (s3.cur ∈ s3.order.take (j + 1)) = decide (i9 = s3.cur) from by
                        rw [HTS.out]
                        have := of_decide_eq_false HCV.out
                        by_cases e : i9 = s3.cur
                        · rw [decide_eq_true e, decide_eq_true (by rw [e]; exact List.mem_append_right _ (List.mem_cons_self ..))]
                        · rw [decide_eq_false e, decide_eq_false]
                          intro hm
                          rcases List.mem_append.1 hm with hm | hm
                          · exact this hm
                          · exact e (List.mem_singleton.1 hm).symm)
                      go_upto_region 40 with fail
                      by_cases e : i9 = s3.cur
                      · have v1 : ((i9 : Int) == (s3.cur : Int)) = true := by simp [e]
                        have v2 : decide ((i9 : Int) = (s3.cur : Int)) = true := by simp [e]
                        have HE9 := hide e
                        clear e
                        go_quiet ((go_at_call 21; refine Calls.quiet_of_same (HCU.out _)))
                        go_wp2_with fail
                        go_roundw
                        case rel => exact ⟨j + 1, HLJ.out, by go_num, by rw [HEQ.out, decide_eq_true HE9.out], H10.out.below (below_drewN (Below.refl _ _) _)⟩
                        case measure => have := HLJ.out; simp [intOf]; omega
                      · have v1 : ((i9 : Int) == (s3.cur : Int)) = false := by simp; omega
                        have v2 : decide ((i9 : Int) = (s3.cur : Int)) = false := by simp; omega
                        have HE9 := hide e
                        clear e
                        go_quiet ((go_at_call 21; refine Calls.quiet_of_same (HCU.out _)))
                        go_wp2_with fail
                        go_roundw
                        case rel => exact ⟨j + 1, HLJ.out, by go_num, by rw [HEQ.out, decide_eq_false HE9.out], H10.out.below (below_drewN (Below.refl _ _) _)⟩
                        case measure => have := HLJ.out; simp [intOf]; omega
                  · have u1 : decide (j < n6) = false := by simpa using hlj
                    have u2 : decide ((j : Int) < (n6 : Int)) = false := by simp; omega
                    have hjn : j = n6 := by omega
                    have HCV := hide (show decide (s3.cur ∈ s3.order.take j) = true from by
                      rw [hjn, List.take_of_length_le (by rw [HN6.out]; exact Nat.le_refl _)]
                      exact decide_eq_true H7.out.cu)
                    rw [HCV.out]
                    clear hj hlj hz9 hjn
                    go_wp2_with fail
                    go_roundw
                    case rel => exact ⟨k + 1, s3, tx3, (jd :: Q), B10, d10, nxt, m10, HLT.out, by go_num, rfl, HN3.out, rfl, HM10.out, HR10.out, HPRE2.out, (H9.out.sub (List.sublist_cons_self _ _)).dropL⟩
                    case measure => have := HLT.out; simp [intOf]; omega
        have HCN7 := hide hc
        clear hc
        by_cases hc : P0 = 6 ∧ E = 0
        · as_aux_lemma =>
            obtain ⟨hp1, hE0⟩ := hc
            have t1 : decide (P0 < 2) = false := by simp; omega
            have t2 : (E == 0) = true := by simp; omega
            have t3 : decide (E = 0) = true := by simp; omega
            have t4 : (E != 0) = false := by simp; omega
            have t5 : (P0 != 8) = true := by simp; omega
            have t6 : (P0 != 4) = true := by simp; omega
            have t7 : (P0 != 3) = true := by simp; omega
            have t8 : decide (1 < P0) = true := by simp; omega
            have e5 : (P0 == 5) = false := by simp; omega
            have e5b : decide (P0 = 5) = false := by simp; omega
            have e6 : (P0 == 6) = true := by simp; omega
            have e6b : decide (P0 = 6) = true := by simp; omega
            have HC := hide (And.intro hp1 hE0)
            obtain ⟨jd, hjd⟩ := do_known HOK.out (show doE s tx a = 0 by rw [← HE.out]; exact hE0) (show a.p = 2 ∨ a.p = 5 ∨ a.p = 6 ∨ a.p = 7 by rw [← HP0.out]; omega)
            have HJD := hide hjd
            have HN3 := hide (show nxt = s3.next from by rw [HNXT.out, if_neg (by have := HC.out; omega)])
            have H4 := hide (H3.out.dropL)
            have hm1b : (m1 : Int) ≤ 1000 := by have := HPRE.out.length_le; have := HM1.out; have := HZ.out.len; omega
            obtain ⟨i0, hi, hi1, hi2, hi3⟩ := info_parts info_int
            have HJ := hide hi
            have HJ1 := hide hi1
            have HJ2 := hide hi2
            have HJ3 := hide hi3
            clear hp1 hE0 hpc q0 q1 q2 hjd hi hi1 hi2 hi3
            go_wp2_with fail
            go_loopw [11, 12] (fun rv jv wr => ∃ (j : Nat) (Q : List Nat) (Bq : Option Addr) (mq dq : Nat), j ≤ m1 ∧ jv = .int .i64 (j : Int) ∧ Q = flt (F.take j) a.id ∧ rv = .slice Bq mq dq ∧ mq = Q.length ∧ mq ≤ j ∧ RowOk (.slice Bq mq dq) mq ∧ LZ w0 wr sb s3 tx3 (k + 1) (rowOf 3 1 (.slice Bq mq dq) mq (ints Q) ++ rowOf 3 1 (.slice B m1 d) m1 (ints F))) (fun _ jv _ => m1 - (intOf jv).toNat)
            case atStart => exact ⟨0, [], none, 0, 0, Nat.zero_le _, rfl, rfl, rfl, rfl, Nat.le_refl _, RowOk.nil, H4.out⟩
            case round =>
              obtain ⟨j, Q, Bq, mq, dq, hj, rfl, hQ, rfl, hmq, hmj, hrq, hz5⟩ := hrel
              have HQ := hide hQ
              have HMQ := hide hmq
              have HMJ := hide hmj
              have HRQ := hide hrq
              have HZ5 := hide hz5
              by_cases hlj : j < m1
              · have u1 : decide (j < m1) = true := by simpa using hlj
                have u2 : decide ((j : Int) < (m1 : Int)) = true := by simp; omega
                have u3 : (j : Int) < (m1 : Int) := by omega
                have HLJ := hide hlj
                obtain ⟨f9, hf9⟩ : ∃ f9, F[j]? = some f9 := ⟨_, List.getElem?_eq_getElem (by rw [← HM1.out]; exact hlj)⟩
                have HF9 := hide hf9
                have HFS := hide (fun (w' : World) (h' : LZ w0 w' sb s3 tx3 (k + 1) (rowOf 3 1 (.slice Bq mq dq) mq (ints Q) ++ rowOf 3 1 (.slice B m1 d) m1 (ints F))) => (show Rd w' (.slice B m1 d) 1 m1 (ints F) from (h'.rowSl (fun x hx => List.mem_append_right _ hx) (by rw [ints_size, HM1.out, Nat.mul_one]) HROW.out).rd))
                obtain ⟨gf, of, hBf⟩ := Rd.some_ (HFS.out wr hz5) (by omega)
                subst hBf
                have HFC := hide (fun (w' : World) (h' : LZ w0 w' sb s3 tx3 (k + 1) (rowOf 3 1 (.slice Bq mq dq) mq (ints Q) ++ rowOf 3 1 (.slice (some ⟨gf, of, none⟩) m1 d) m1 (ints F))) => (show w'.cell? ⟨gf, of + j, none⟩ = some (.int .i64 (f9 : Int)) from by
                  obtain ⟨g', o', e1, h7⟩ := rd_cells (HFS.out w' h') (by have := HLJ.out; omega)
                  obtain ⟨rfl, rfl⟩ : gf = g' ∧ of = o' := by
                    injection e1 with e1
                    injection e1 with e2 e3 _
                    exact ⟨e2, e3⟩
                  exact h7 w' (Below.refl _ _) j _ (ints_at HF9.out)))
                have d9 := HFC.out wr hz5
                obtain ⟨_, q1, _⟩ := HCA.out wr hz5.bel
                have HFL := hide (flt_snoc a.id hf9)
                clear hQ hmq hmj hrq hz5 hf9 hj hlj
                go_upto_region 25 with fail
                by_cases hne : (f9 : Int) = a.id
                · have v1 : ((f9 : Int) != a.id) = false := by simp [hne]
                  have HE9 := hide hne
                  clear hne
                  go_quiet (fail)
                  go_wp2_with fail
                  go_roundw
                  case rel => exact ⟨j + 1, Q, Bq, mq, dq, HLJ.out, by go_num, by rw [HFL.out, if_neg (fun h9 => h9 HE9.out)]; exact HQ.out, rfl, HMQ.out, Nat.le_succ_of_le HMJ.out, HRQ.out, HZ5.out.below (below_drewN (Below.refl _ _) _)⟩
                  case measure => have := HLJ.out; simp [intOf]; omega
                · have v1 : ((f9 : Int) != a.id) = true := by simpa using hne
                  have HE9 := hide hne
                  clear hne
                  go_quiet (fail)
                  obtain ⟨wq, hwq⟩ : ∃ y : World, y = wr.drewN nq := ⟨_, rfl⟩
                  rw [← hwq]
                  have H6 := hide (show LZ w0 wq sb s3 tx3 (k + 1) _ from hwq ▸ HZ5.out.below (below_drewN (Below.refl _ _) nq))
                  have d10 := HFC.out wq H6.out
                  have H7 := hide (H6.out.below (below_box' wq (.cells #[.int .i64 (f9 : Int)] 3)))
                  clear d9 hwq
                  go_wp2_with (at_builtin; refine wpList_append_sl rfl (.tmp 100) (.tmp 105) 32 rfl 3 i0 (.int .i64 0) 1 8 Tryz.underlying32 HJ.out HJ1.out HJ2.out HJ3.out rfl _ mq (ints Q) rfl (H7.out.rowSl (fun x hx => List.mem_append_left _ hx) (by rw [ints_size, HMQ.out, Nat.mul_one]) HRQ.out) _ rfl 1 [_] (rd_one _ _ _) ?one ?b1 ?b2 ?_)
                  case one => intro u hu; rcases List.mem_singleton.1 hu with rfl; rfl
                  case b1 => have := HMJ.out; have := HLJ.out; unfold maxLen; omega
                  case b2 => have := HMJ.out; have := HLJ.out; omega
                  intro v8 w8 s8 o8 b8
                  obtain ⟨B8, d8, rfl, _, _⟩ := Sl.form s8
                  have s8' : Sl w8 3 1 (.slice B8 (mq + 1) d8) (mq + 1) (ints (Q ++ [f9])) := by rw [ints_snoc]; exact s8
                  have H8 := hide (H7.out.appended s8' o8 (by rcases b8 with h | h; exact .inl h; exact .inr (h.trans (congrArg some (World.size_alloc ..).symm)) ))
                  have HR8 := hide (Sl.rowOk s8')
                  clear s8 o8 b8 s8' d10
                  go_wp2_with fail
                  go_roundw
                  case rel => exact ⟨j + 1, Q ++ [f9], B8, mq + 1, d8, HLJ.out, by go_num, by rw [HFL.out, if_pos HE9.out, ← HQ.out], rfl, by rw [List.length_append, HMQ.out]; rfl, Nat.succ_le_succ HMJ.out, HR8.out, H8.out⟩
                  case measure => have := HLJ.out; simp [intOf]; omega
              · have u1 : decide (j < m1) = false := by simpa using hlj
                have u2 : decide ((j : Int) < (m1 : Int)) = false := by simp; omega
                have hjm : j = m1 := by omega
                have HQF := hide (show Q = flt F a.id from by rw [HQ.out, hjm, List.take_of_length_le (by rw [HM1.out]; exact Nat.le_refl _)])
                have H8 := hide (hz5.sub (List.sublist_append_left _ _))
                have HMB := hide (show mq ≤ 1000 from by have := HMJ.out; omega)
                clear hQ hmq hmj hrq hz5 hj hlj hjm
                obtain ⟨_, q1, _⟩ := HCA.out wr H8.out.bel
                rw [HJD.out] at q1
                have s9 := Sl.new wr 3 1 #[.int .i64 (jd : Int)] 1 1 (Nat.le_refl _) (by simp [maxLen]) (by simp)
                have s9' : Sl (wr.alloc (.cells #[.int .i64 (jd : Int)] 3)) 3 1 (.slice (some ⟨wr.heap.size, 0, none⟩) 1 1) 1 (ints [jd]) := by simpa [ints] using s9
                have H9 := hide (H8.out.join (below_box' wr _) s9' (by intro g' hg'; simp [Value.ownBlock] at hg'; omega))
                have HS9 := hide s9'
                have HRD9 := hide (show Rd (wr.alloc (.cells #[.int .i64 (jd : Int)] 3)) (.slice Bq mq dq) 1 mq (ints Q) from (H9.out.rowSl (fun x hx => List.mem_append_right _ hx) (by rw [ints_size, HMQ.out, Nat.mul_one]) HRQ.out).rd)
                clear s9 s9'
                go_wp2_with (at_builtin; refine wpList_append_sl rfl (.tmp 119) (.tmp 120) 32 rfl 3 i0 (.int .i64 0) 1 8 Tryz.underlying32 HJ.out HJ1.out HJ2.out HJ3.out rfl _ 1 (ints [jd]) rfl HS9.out _ rfl mq (ints Q) HRD9.out (ints_one _) ?b1 ?b2 ?_)
                case b1 => have := HMB.out; unfold maxLen; omega
                case b2 => have := HMB.out; omega
                intro v10 w10 s10 o10 b10
                obtain ⟨B10, d10, rfl, _, _⟩ := Sl.form s10
                have s10' : Sl w10 3 1 (.slice B10 (1 + mq) d10) (1 + mq) (ints (jd :: Q)) := by simpa [ints] using s10
                have H10 := hide (H9.out.appended s10' o10 (by rcases b10 with h | h; exact .inl h; exact .inr (h.trans (congrArg some (World.size_alloc ..).symm))))
                have HR10 := hide (Sl.rowOk s10')
                have HM10 := hide (show 1 + mq = (jd :: Q).length from by rw [List.length_cons, HMQ.out]; omega)
                obtain ⟨m10, hm10⟩ : ∃ m10, m10 = 1 + mq := ⟨_, rfl⟩
                rw [← hm10] at H10 HR10 HM10 ⊢
                have HPRE2 := hide (show jd :: Q <+: s3.order from by
                  have h9 := HFR.out
                  unfold frN at h9
                  rw [if_pos (by have := HC.out; omega), if_pos (by have := HC.out; omega)] at h9
                  rw [HQF.out]
                  rw [show a.id.toNat = jd by rw [HJD.out]; rfl] at h9
                  exact h9)
                have H5 := hide (H10.out.sub (List.sublist_append_left _ _))
                clear s10 o10 b10 s10' hm10 q1
                have HLS5 := hide (H5.out.listO (by omega))
                go_wp2_with fail
                have hnx3 : (nxt : Int) ≤ 62 := by omega
                refine Calls.mono HLS5.out ?_
                rintro e w6 ⟨v6, rfl, s6, f6, b6⟩
                obtain ⟨A6, c6, rfl, hcap, _⟩ := Sl.form s6
                have H6 := hide (H5.out.join b6 s6 f6)
                have HW6 := hide (Sl.rowOk s6)
                obtain ⟨n6, hn6⟩ : ∃ n6, n6 = s3.order.length := ⟨_, rfl⟩
                rw [← hn6] at hcap H6 HW6 ⊢
                have HN6 := hide hn6
                have HLE := hide (show m10 ≤ n6 from by rw [HM10.out, hn6]; exact HPRE2.out.length_le)
                have x1 : decide ((n6 : Int) < (m10 : Int)) = false := by have := HLE.out; simp; omega
                have x1b : decide (n6 < m10) = false := by have := HLE.out; simp; omega
                have x2 : (m10 : Int) ≤ (c6 : Int) := by have := HLE.out; omega
                have x3 : m10 ≤ c6 := by have := HLE.out; omega
                have HTK := hide (show s3.order.take m10 = (jd :: Q) from by rw [HM10.out]; exact (List.prefix_iff_eq_take.1 HPRE2.out).symm)
                have HS6 := hide (show IntSl w6 (.slice A6 n6 c6) s3.order from by
                  unfold IntSl
                  rw [← hn6]
                  exact H6.out.rowSl (fun x hx => List.mem_append_left _ hx) (by rw [ints_size, hn6, Nat.mul_one]) HW6.out)
                have HSF := hide (show IntSl w6 (.slice B10 m10 d10) (jd :: Q) from by
                  unfold IntSl
                  rw [← HM10.out]
                  exact H6.out.rowSl (fun x hx => List.mem_append_right _ hx) (by rw [ints_size, HM10.out, Nat.mul_one]) HR10.out)
                have HSM := hide (same_ints w6 (jd :: Q) m10 m10 A6 B10 c6 d10 HM10.out HM10.out (by
                    have h9 := HS6.out.rd
                    rw [← hn6] at h9
                    have h8 := h9.cutI HLE.out
                    rwa [HTK.out] at h8) (by
                    have h9 := HSF.out.rd
                    rwa [← HM10.out] at h9) (by have := H6.out.len; have := HLE.out; have := HM10.out; have := hn60; omega))
                clear s6 f6 b6 HLS5 hn6
                go_wp2_with fail
                refine Calls.mono HSM.out ?_
                rintro e w7 ⟨rfl, b7⟩
                have H7 := hide (H6.out.below b7)
                have HMY := H7.out.many
                rw [← H7.out.ok.len, ← HN6.out] at HMY
                have HMY := hide HMY
                clear b7
                go_wp2_with fail
                refine Calls.mono HMY.out ?_
                rintro e w8 ⟨rfl, rfl⟩
                have hmk := make_seen
                have H8 := hide (H7.out.newMap)
                have hn6b : (n6 : Int) ≤ 1000 := by have := H7.out.len; have := HN6.out; omega
                have hp6 : 0 < n6 := by
                  rw [HN6.out]
                  exact List.length_pos_of_mem H7.out.cu
                obtain ⟨g6, o6, rfl⟩ : ∃ g6 o6, A6 = some ⟨g6, o6, none⟩ := by
                  have h9 := HS6.out.rd
                  rw [← HN6.out] at h9
                  exact Rd.some_ h9 hp6
                obtain ⟨mb, hmb⟩ : ∃ mb, mb = w7.heap.size := ⟨_, rfl⟩
                rw [← hmb] at H8
                go_wp2_with fail
                rw [← hmb]
                clear hmb hmk x1 x1b x2 x3 hp6
                go_loopw [15, 16] (fun cv jv wr => ∃ j : Nat, j ≤ n6 ∧ jv = .int .i64 (j : Int) ∧ cv = .bool (decide (s3.cur ∈ s3.order.take j)) ∧ LZ w0 wr sb s3 tx3 (k + 1) ((mb, .map (seenP (s3.order.take j))) :: (rowOf 3 1 (.slice (some ⟨g6, o6, none⟩) n6 c6) n6 (ints s3.order) ++ rowOf 3 1 (.slice B10 m10 d10) m10 (ints (jd :: Q))))) (fun _ jv _ => n6 - (intOf jv).toNat)
                case atStart => exact ⟨0, Nat.zero_le _, rfl, by simp, H8.out⟩
                case round =>
                  obtain ⟨j, hj, rfl, rfl, hz9⟩ := hrel
                  have H9 := hide hz9
                  by_cases hlj : j < n6
                  · have u1 : decide (j < n6) = true := by simpa using hlj
                    have u2 : decide ((j : Int) < (n6 : Int)) = true := by simp; omega
                    have u3 : (j : Int) < (n6 : Int) := by omega
                    have HLJ := hide hlj
                    obtain ⟨i9, hi9⟩ : ∃ i9, s3.order[j]? = some i9 := ⟨_, List.getElem?_eq_getElem (by rw [← HN6.out]; exact hlj)⟩
                    have HI9 := hide hi9
                    have hs9 : IntSl wr (.slice (some ⟨g6, o6, none⟩) n6 c6) s3.order := by
                      unfold IntSl
                      rw [← HN6.out]
                      exact hz9.rowSl (fun x hx => List.mem_cons_of_mem _ (List.mem_append_left _ hx)) (by rw [ints_size, HN6.out, Nat.mul_one]) HW6.out
                    have HC9 := hide (fun (w' : World) (h' : IntSl w' (.slice (some ⟨g6, o6, none⟩) n6 c6) s3.order) => (show w'.cell? ⟨g6, o6 + j, none⟩ = some (.int .i64 (i9 : Int)) from by
                      have h8 := h'.rd
                      rw [← HN6.out] at h8
                      obtain ⟨g', o', e1, h7⟩ := rd_cells h8 (by have := HLJ.out; omega)
                      obtain ⟨rfl, rfl⟩ : g6 = g' ∧ o6 = o' := by
                        injection e1 with e1
                        injection e1 with e2 e3 _
                        exact ⟨e2, e3⟩
                      exact h7 w' (Below.refl _ _) j _ (ints_at HI9.out)))
                    have d9 := HC9.out wr hs9
                    have HMP := hide (hz9.ownR.mapIs (g := mb) (List.mem_cons_self ..))
                    have hlk := HMP.out.lookup (P := Tryz.prog) (seen_keys _) Tryz.underlying47 Tryz.underlying3 (.int _ (i9 : Int)) (zero_bool wr) false
                    rw [seen_get (take_not H7.out.ok.onod hi9)] at hlk
                    simp only [Option.getD_none, Bool.false_eq_true, if_false] at hlk
                    obtain ⟨w10, hup, hm10, ho10⟩ := HMP.out.update (P := Tryz.prog) (seen_keys _) Tryz.underlying47 Tryz.underlying3 (.int _ (i9 : Int)) (.bool true)
                    rw [seen_put (take_not H7.out.ok.onod hi9), ← take_snoc hi9] at hm10
                    have H10 := hide (hz9.turnMap ho10 hm10)
                    have hs10 : IntSl w10 (.slice (some ⟨g6, o6, none⟩) n6 c6) s3.order := by
                      unfold IntSl
                      rw [← HN6.out]
                      exact H10.out.rowSl (fun x hx => List.mem_cons_of_mem _ (List.mem_append_left _ hx)) (by rw [ints_size, HN6.out, Nat.mul_one]) HW6.out
                    have d10 := HC9.out w10 hs10
                    have hi10 : i9 < nxt := by rw [HN3.out]; exact H7.out.ok.lt i9 (List.mem_of_getElem? hi9)
                    have u4 : decide ((i9 : Int) < 0) = false := by simp
                    have u5 : decide ((nxt : Int) ≤ (i9 : Int)) = false := by simp; omega
                    have u6 : decide (nxt ≤ i9) = false := by simp; omega
                    have HCU := hide (fun (q : Nat) => (show Calls Tryz.prog 21 #[.pointer (some ⟨sb, 0, none⟩)] (w10.drewN q) fun e w' => e = .returned (.int .i64 (s3.cur : Int)) ∧ w' = w10.drewN q from ((H10.out.below (below_drewN (Below.refl _ _) q)).current).mono fun _ _ h9 => ⟨h9.1, h9.2.symm⟩))
                    have HTS := hide (show s3.order.take (j + 1) = s3.order.take j ++ [i9] from take_snoc hi9)
                    clear hi9 hs9 hs10 hm10 ho10 hz9 hj hlj hi10
                    cases hcv : decide (s3.cur ∈ s3.order.take j) with
                    | true =>
                      have HCV := hide hcv
                      clear hcv
                      go_upto_region 40 with fail
                      go_quiet (fail)
                      go_wp2_with fail
                      go_roundw
                      case rel => exact ⟨j + 1, HLJ.out, by go_num, by
                        rw [HTS.out]
                        have := of_decide_eq_true HCV.out
                        rw [decide_eq_true (List.mem_append_left _ this)], H10.out.below (below_drewN (Below.refl _ _) _)⟩
                      case measure => have := HLJ.out; simp [intOf]; omega
                    | false =>
                      have HCV := hide hcv
                      clear hcv
                      have HEQ := hide (show decide (s3.cur ∈ s3.order.take (j + 1)) = decide (i9 = s3.cur) from by
                        rw [HTS.out]
                        have := of_decide_eq_false HCV.out
                        by_cases e : i9 = s3.cur
                        · rw [decide_eq_true e, decide_eq_true (by rw [e]; exact List.mem_append_right _ (List.mem_cons_self ..))]
                        · rw [decide_eq_false e, decide_eq_false]
                          intro hm
                          rcases List.mem_append.1 hm with hm | hm
                          · exact this hm
                          · exact e (List.mem_singleton.1 hm).symm)
                      go_upto_region 40 with fail
                      by_cases e : i9 = s3.cur
                      · have v1 : ((i9 : Int) == (s3.cur : Int)) = true := by simp [e]
                        have v2 : decide ((i9 : Int) = (s3.cur : Int)) = true := by simp [e]
                        have HE9 := hide e
                        clear e
                        go_quiet ((go_at_call 21; refine Calls.quiet_of_same (HCU.out _)))
                        go_wp2_with fail
                        go_roundw
                        case rel => exact ⟨j + 1, HLJ.out, by go_num, by rw [HEQ.out, decide_eq_true HE9.out], H10.out.below (below_drewN (Below.refl _ _) _)⟩
                        case measure => have := HLJ.out; simp [intOf]; omega
                      · have v1 : ((i9 : Int) == (s3.cur : Int)) = false := by simp; omega
                        have v2 : decide ((i9 : Int) = (s3.cur : Int)) = false := by simp; omega
                        have HE9 := hide e
                        clear e
                        go_quiet ((go_at_call 21; refine Calls.quiet_of_same (HCU.out _)))
                        go_wp2_with fail
                        go_roundw
                        case rel => exact ⟨j + 1, HLJ.out, by go_num, by rw [HEQ.out, decide_eq_false HE9.out], H10.out.below (below_drewN (Below.refl _ _) _)⟩
                        case measure => have := HLJ.out; simp [intOf]; omega
                  · have u1 : decide (j < n6) = false := by simpa using hlj
                    have u2 : decide ((j : Int) < (n6 : Int)) = false := by simp; omega
                    have hjn : j = n6 := by omega
                    have HCV := hide (show decide (s3.cur ∈ s3.order.take j) = true from by
                      rw [hjn, List.take_of_length_le (by rw [HN6.out]; exact Nat.le_refl _)]
                      exact decide_eq_true H7.out.cu)
                    rw [HCV.out]
                    clear hj hlj hz9 hjn
                    go_wp2_with fail
                    go_roundw
                    case rel => exact ⟨k + 1, s3, tx3, (jd :: Q), B10, d10, nxt, m10, HLT.out, by go_num, rfl, HN3.out, rfl, HM10.out, HR10.out, HPRE2.out, (H9.out.sub (List.sublist_cons_self _ _)).dropL⟩
                    case measure => have := HLT.out; simp [intOf]; omega
        have HCN8 := hide hc
        clear hc
        exact absurd hpc (by have h0 := HCN0.out; have h1 := HCN1.out; have h2 := HCN2.out; have h3 := HCN3.out; have h4 := HCN4.out; have h5 := HCN5.out; have h6 := HCN6.out; have h7 := HCN7.out; have h8 := HCN8.out; omega)
      · have y1 : decide (k < nn) = false := by simpa using hlt
        have y2 : decide ((k : Int) < (nn : Int)) = false := by simp; omega
        obtain rfl : k = nn := by omega
        clear hk hlt H1
        go_wp2_with fail
        go_ret
        exact ⟨rfl, HB0.out.trans (HZ.out.bel.mono HB0.out.size)⟩
end Go.Proofs.YtnbhejbpofjamaaGreatDoor
