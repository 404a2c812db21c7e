/- BuffersKill: the walk. No condition but those written. -/
import Derived.Test.YtnbhejbpofjamaaGreatDoorBnk
namespace Go.Proofs.YtnbhejbpofjamaaGreatDoor
open Go.RowKit

set_option maxRecDepth 100000 in
set_option maxHeartbeats 16000000 in
theorem kill_walk (l : List Ab) (A : Option Addr) (c : Nat) (id : Int) (W : World) (hrd : Rd W (.slice A l.length c) 3 l.length (rows Ab.cells l)) (hm : l.length ≤ maxLen) (hR : Rules W) (hP : Pow W) :
    Calls Tryz.prog 6 #[.slice A l.length c, .int .i64 id] W fun e w' => e = .returned (.bool true) ∧ Below W.heap.size W w' := by
  have HLV := hide (lives_any W hR.tabs hP)
  have HLI := hide (fun w1 (hb : Below W.heap.size W w1) => light_any l (.slice A l.length c) w1 (hrd.belowN hb) hm)
  have HRD := hide hrd
  have HR := hide hR
  obtain ⟨nn, hnn⟩ : ∃ nn, nn = l.length := ⟨_, rfl⟩
  rw [← hnn] at HRD HLI ⊢
  have HNN := hide hnn
  have hl2 : (nn : Int) ≤ 9223372036854775807 := by unfold maxLen at hm; omega
  clear hrd hm hR hP hnn
  cases hli : lightB l with
  | false =>
    rw [hli] at HLI
    clear hli
    go_enter Tryz.func6, Tryz.ntmps6
    go_wp2_with fail
    refine (Calls.mono (HLV.out)) ?_
    rintro e w0 ⟨rfl, b0⟩
    have HB0 := hide b0
    clear b0
    go_wp2_with fail
    refine (Calls.mono (HLI.out _ HB0.out)) ?_
    rintro e w1 ⟨rfl, rfl⟩
    go_wp2_with fail
    go_ret
    exact ⟨rfl, HB0.out⟩
  | true =>
    have HLL := hide (lightB_iff.1 hli)
    rw [hli] at HLI
    clear hli
    have hn60 : (nn : Int) ≤ 60 := by have := HLL.out.2; have := HNN.out; omega
    clear hl2
    go_enter Tryz.func6, Tryz.ntmps6
    go_wp2_with fail
    refine (Calls.mono (HLV.out)) ?_
    rintro e w0 ⟨rfl, b0⟩
    have HB0 := hide b0
    clear b0 HLV
    go_wp2_with fail
    refine (Calls.mono (HLI.out _ HB0.out)) ?_
    rintro e w1 ⟨rfl, rfl⟩
    clear HLI
    go_wp2_with fail
    refine (Calls.mono (lz_new (Own.refl w0) (HR.out.tabs.below HB0.out))) ?_
    rintro e w1 ⟨sb, g0, b0, rfl, h1⟩
    have H1 := hide h1
    have HR0 := hide (HR.out.below HB0.out)
    clear h1
    go_wp2_with fail
    go_loopw [6] (fun iv wr => ∃ (k : Nat) (s : Bst) (tx : Nat → Bz), k ≤ nn ∧ iv = .int .i64 (k : Int) ∧ LZ w0 wr sb s tx k []) (fun iv _ => nn - (intOf iv).toNat)
    case atStart => exact ⟨0, _, _, Nat.zero_le _, rfl, H1.out⟩
    case round =>
      obtain ⟨k, s, tx, hk, rfl, hz⟩ := hrel
      have HZ := hide hz
      have HK := hide hk
      clear hz
      by_cases hlt : k < nn
      · have y1 : decide (k < nn) = true := by simpa using hlt
        have y2 : decide ((k : Int) < (nn : Int)) = true := by simp; omega
        have y3 : (k : Int) < (nn : Int) := by omega
        obtain ⟨a, ha⟩ : ∃ a, l[k]? = some a := ⟨_, List.getElem?_eq_getElem (by rw [← HNN.out]; exact hlt)⟩
        obtain ⟨g, off, rfl, p0, p1, p2⟩ := (HRD.out.belowN (HB0.out.trans (HZ.out.bel.mono HB0.out.size))).act HNN.out ha
        have HDO := hide (do_any HZ.out HR0.out (by have := HLL.out.2; have := HNN.out; omega) a (HLL.out.1 a (List.mem_of_getElem? ha)))
        have HLT := hide hlt
        clear hlt hk ha
        go_wp2_with fail
        refine (Calls.mono (HDO.out)) ?_
        rintro e w2 ⟨rfl, s2, tx2, _, h2⟩
        have H2 := hide h2
        clear h2 p0 p1 p2
        go_wp2_with fail
        go_roundw
        case rel => exact ⟨k + 1, s2, tx2, HLT.out, by go_num, H2.out⟩
        case measure => have := HLT.out; simp [intOf]; omega
      · have y1 : decide (k < nn) = false := by simpa using hlt
        have y2 : decide ((k : Int) < (nn : Int)) = false := by simp; omega
        obtain rfl : k = nn := by omega
        have HLS := hide (HZ.out.listO (by omega))
        have HOK := hide HZ.out.ok
        clear hk hlt H1
        go_wp2_with fail
        refine (Calls.mono (HLS.out)) ?_
        rintro e w2 ⟨v2, rfl, s2, f2, b2⟩
        obtain ⟨A2, c2, rfl, _, _⟩ := Sl.form s2
        obtain ⟨m, hm⟩ : ∃ m, m = s.order.length := ⟨_, rfl⟩
        have H2 := HZ.out.join b2 s2 f2
        have HWR := hide (Sl.rowOk s2)
        rw [← hm] at H2 HWR ⊢
        have H2 := hide H2
        have HM := hide hm
        have hm1 : (m : Int) ≤ 61 := by have := HZ.out.len; omega
        have HM0 := hide (show 0 < m from by rw [hm]; exact List.length_pos_of_mem HZ.out.cu)
        obtain ⟨gw, ow, rfl⟩ : ∃ gw ow, A2 = some ⟨gw, ow, none⟩ := by
          have h9 := Sl.rd s2
          rw [← hm] at h9
          exact Rd.some_ h9 HM0.out
        have HWAS := hide (fun (w' : World) (s' : Bst) (tx' : Nat → Bz) (k' : Nat) (R' : Heap) (h' : LZ w0 w' sb s' tx' k' R') (hx : ∀ x, x ∈ rowOf 3 1 (.slice (some ⟨gw, ow, none⟩) m c2) m (ints s.order) → x ∈ R') => (show Sl w' 3 1 (.slice (some ⟨gw, ow, none⟩) m c2) m (ints s.order) from
          h'.rowSl hx (by rw [ints_size, HM.out, Nat.mul_one]) HWR.out))
        have HCU := hide H2.out.current
        clear s2 f2 b2 HLS hm
        go_wp2_with fail
        refine (Calls.mono (HCU.out)) ?_
        rintro e w3 ⟨rfl, rfl⟩
        obtain ⟨nm, isb, hnr, hni⟩ : ∃ nm isb, nameR s id = .tuple #[.string nm, .bool isb] ∧ ((isb = false ∧ fndB s.all id = none) ∨ ∃ x, isb = true ∧ fndB s.all id = some x ∧ x.name = nm) := by
          rcases nameR_form s id with ⟨h1, h2, _⟩ | ⟨x, h1, h2, _⟩
          · exact ⟨_, _, h2, .inl ⟨rfl, h1⟩⟩
          · exact ⟨_, _, h2, .inr ⟨x, rfl, h1, rfl⟩⟩
        have HNM := H2.out.name id
        rw [hnr] at HNM
        have HNM := hide HNM
        have HNI := hide hni
        have HCP := hide (H2.out.copy (by omega))
        clear hnr hni HCU
        go_wp2_with fail
        refine (Calls.mono (HNM.out)) ?_
        rintro e w3 ⟨rfl, rfl⟩
        go_wp2_with fail
        refine (Calls.mono (HCP.out)) ?_
        rintro e w4 ⟨ob, sc, txc, HC, rfl, hsc, h4, hco⟩
        have HSC := hide hsc
        have HCO := hide hco
        have HKL := hide (h4.kill (by omega) id)
        clear hsc h4 hco HCP HNM
        go_wp2_with fail
        refine (Calls.mono (HKL.out)) ?_
        rintro e w5 ⟨rfl, h5⟩
        have H5 := hide h5
        clear h5 HKL
        rcases HNI.out with ⟨rfl, hf⟩ | ⟨x, rfl, hf, hxn⟩
        · as_aux_lemma =>
            have hke : kilE s id = 8 := by unfold kilE knownE; rw [hf]; rfl
            have H6 := H5.out
            rw [hke, if_neg (by decide)] at H6
            have H6 := hide H6
            have HLS := hide (H6.out.listO (by omega))
            rw [hke]
            clear hf hke
            go_wp2_with fail
            refine (Calls.mono (HLS.out)) ?_
            rintro e w6 ⟨v6, rfl, s6, f6, b6⟩
            obtain ⟨A6, c6, rfl, _, _⟩ := Sl.form s6
            have HSM := hide (same_ints w6 s.order m m A6 (some ⟨gw, ow, none⟩) c6 c2 HM.out HM.out (by have h9 := Sl.rd s6; rwa [← HM.out] at h9) ((HWAS.out w6 _ _ _ _ (H6.out.below b6) (fun x hx => List.mem_append_right _ (List.mem_append_left _ hx))).rd) (by have := HM.out; omega))
            rw [← HM.out]
            have HB6 := hide b6
            clear s6 f6 b6 HLS
            go_wp2_with fail
            refine (Calls.mono (HSM.out)) ?_
            rintro e w7 ⟨rfl, b7⟩
            have HB7 := hide b7
            clear b7
            go_wp2_with fail
            go_ret
            exact ⟨rfl, HB0.out.trans (((H6.out.below HB6.out).below HB7.out).bel.mono HB0.out.size)⟩
        · obtain ⟨hxm, hxi⟩ := fndB_mem hf
          by_cases h1 : s.all.length = 1
          · as_aux_lemma =>
              have hke : kilE s id = 9 := by unfold kilE knownE; rw [hf, if_neg (by simp), if_pos h1]
              have H6 := H5.out
              rw [hke, if_neg (by decide)] at H6
              have H6 := hide H6
              have hmv : m = 1 := by rw [HM.out, HOK.out.len, h1]
              have hcu : (s.cur : Int) = id := by
                have h7 := HZ.out.cu
                have h8 : x.id ∈ s.order := (HOK.out.mem _).2 (List.mem_map.2 ⟨x, hxm, rfl⟩)
                have h9 : s.order.length = 1 := by rw [HOK.out.len, h1]
                obtain ⟨q, hq⟩ := List.length_eq_one_iff.1 h9
                rw [hq] at h7 h8
                simp at h7 h8
                omega
              have HCU := hide H6.out.current
              rw [hke]
              subst hmv
              rw [hcu] at HCU
              clear hf hke hxm hxi h1 hcu
              go_wp2_with fail
              refine (Calls.mono (HCU.out)) ?_
              rintro e w7 ⟨rfl, rfl⟩
              go_wp2_with fail
              go_ret
              exact ⟨rfl, HB0.out.trans (H6.out.bel.mono HB0.out.size)⟩
          · have hke : kilE s id = 0 := by unfold kilE knownE; rw [hf, if_neg (by simp), if_neg h1]
            obtain ⟨j, hj⟩ : ∃ j, j = x.id := ⟨_, rfl⟩
            obtain rfl : id = (j : Int) := by omega
            have H6 := H5.out
            rw [hke, if_pos rfl, Int.toNat_natCast] at H6
            have H6 := hide H6
            rw [hke]
            obtain ⟨mm, hmm⟩ : ∃ mm, m = mm + 1 := ⟨m - 1, by have := HM0.out; omega⟩
            have HML := hide (show (kilS s j).all.length = mm from by
              have h8 := kil_len HOK.out hxm
              rw [← hj, ← HM.out] at h8
              omega)
            have z1 : decide ((m : Int) = 1) = false := by
              have h8 := HM.out
              rw [HOK.out.len] at h8
              simp
              omega
            have z2 : decide (m = 1) = false := by
              have h8 := HM.out
              rw [HOK.out.len] at h8
              simp
              omega
            have z3 : (m : Int) - 1 = (mm : Int) := by omega
            have z4 : ¬ m = 1 := by simpa using z2
            have z5 : ((m : Int) == 1) = false := by simp; omega
            have HN6 := H6.out.name (j : Int)
            rw [show nameR (kilS s j) (j : Int) = .tuple #[.string ⟨#[]⟩, .bool false] from by unfold nameR; rw [kil_self HOK.out j]] at HN6
            have HN6 := hide HN6
            have HF6 := H6.out.find nm
            rw [show findR (kilS s j) nm = .tuple #[.int .i64 0, .bool false] from by rw [hj, ← hxn]; exact kil_name HOK.out HZ.out.nn hxm] at HF6
            have HF6 := hide HF6
            have HWC := hide (fun (w' : World) (s' : Bst) (tx' : Nat → Bz) (k' : Nat) (R' : Heap) (h' : LZ w0 w' sb s' tx' k' R') (hx : ∀ x, x ∈ rowOf 3 1 (.slice (some ⟨gw, ow, none⟩) m c2) m (ints s.order) → x ∈ R') (q i : Nat) (hi : s.order[q]? = some i) => (show w'.cell? ⟨gw, ow + q, none⟩ = some (.int .i64 (i : Int)) from by
              obtain ⟨g', o', e1, h7⟩ := rd_cells ((HWAS.out w' s' tx' k' R' h' hx).rd) HM0.out
              obtain ⟨rfl, rfl⟩ : gw = g' ∧ ow = o' := by
                injection e1 with e1
                injection e1 with e2 e3 _
                exact ⟨e2, e3⟩
              exact h7 w' (Below.refl _ _) q _ (ints_at hi)))
            obtain ⟨i0, hi0, hi1, hi2, hi3⟩ := info_parts info_int
            have HJ := hide hi0
            have HJ1 := hide hi1
            have HJ2 := hide hi2
            have HJ3 := hide hi3
            clear hf hke hxm hxi h1 hj hxn hmm hi0 hi1 hi2 hi3
            go_wp2_with fail
            refine (Calls.mono (HN6.out)) ?_
            rintro e w7 ⟨rfl, rfl⟩
            go_wp2_with fail
            refine (Calls.mono (HF6.out)) ?_
            rintro e w7 ⟨rfl, b7⟩
            have H7 := hide (H6.out.below b7)
            have HG7 := H7.out.get (j : Int)
            rw [show getR (kilS s j) (j : Int) = .pointer none from by unfold getR; rw [kil_self HOK.out j]] at HG7
            have HG7 := hide HG7
            have HMY := H7.out.many
            rw [HML.out] at HMY
            have HMY := hide HMY
            clear b7 HN6 HF6
            go_wp2_with fail
            refine (Calls.mono (HG7.out)) ?_
            rintro e w8 ⟨rfl, rfl⟩
            go_wp2_with fail
            refine (Calls.mono (HMY.out)) ?_
            rintro e w8 ⟨rfl, rfl⟩
            clear HG7 HMY
            go_wp2_with fail
            go_loopw [17, 18] (fun rv iv wr => ∃ (q : Nat) (B : Option Addr) (d m1 : Nat), q ≤ m ∧ iv = .int .i64 (q : Int) ∧ rv = .slice B m1 d ∧ m1 = (flt (s.order.take q) (j : Int)).length ∧ RowOk (.slice B m1 d) m1 ∧ LZ w0 wr sb (kilS s j) tx (k + 1) (rowOf 3 1 (.slice B m1 d) m1 (ints (flt (s.order.take q) (j : Int))) ++ (HC ++ (rowOf 3 1 (.slice (some ⟨gw, ow, none⟩) m c2) m (ints s.order) ++ [])))) (fun _ iv _ => m - (intOf iv).toNat)
            case atStart => exact ⟨0, none, 0, 0, Nat.zero_le _, rfl, rfl, rfl, RowOk.nil, H7.out⟩
            case round =>
              obtain ⟨q, B, d, m1, hq, rfl, rfl, hmq, hrq, hz8⟩ := hrel
              have HMQ := hide hmq
              have HRQ := hide hrq
              have H8 := hide hz8
              have hm1q : m1 ≤ q := by rw [hmq]; exact flt_len _ _ _
              by_cases hlq : q < m
              · as_aux_lemma =>
                  have u1 : decide (q < m) = true := by simpa using hlq
                  have u2 : decide ((q : Int) < (m : Int)) = true := by simp; omega
                  have u3 : (q : Int) < (m : Int) := by omega
                  have HLQ := hide hlq
                  have HM1Q := hide hm1q
                  obtain ⟨i, hi⟩ : ∃ i, s.order[q]? = some i := ⟨_, List.getElem?_eq_getElem (by rw [← HM.out]; exact hlq)⟩
                  have HI := hide hi
                  have HFL := hide (flt_snoc (j : Int) hi)
                  have d0 := HWC.out wr _ _ _ _ hz8 (fun x hx => List.mem_append_right _ (List.mem_append_right _ (List.mem_append_left _ hx))) q i hi
                  obtain ⟨xi, hxi, hxm, hxid⟩ := order_has HOK.out (List.mem_of_getElem? hi)
                  by_cases hne : (i : Int) = (j : Int)
                  · have v1 : ((i : Int) == (j : Int)) = true := by simpa using hne
                    have v2 : decide ((i : Int) = (j : Int)) = true := by simpa using hne
                    have v3 : decide (i = j) = true := by simp; omega
                    have HFL2 := hide (show flt (s.order.take (q + 1)) (j : Int) = flt (s.order.take q) (j : Int) from by rw [HFL.out, if_neg (fun h9 => h9 hne)])
                    obtain ⟨ii, hii⟩ : ∃ ii : Int, ii = (i : Int) := ⟨_, rfl⟩
                    clear hmq hrq hz8 hq hlq hm1q hi hxi hxm hxid hii
                    have v4 : i = j := by omega
                    subst v4
                    go_wp2_with fail
                    go_roundw
                    case rel => exact ⟨q + 1, B, d, m1, HLQ.out, by go_num, rfl, by rw [HFL2.out]; exact HMQ.out, HRQ.out, by rw [HFL2.out]; exact H8.out⟩
                    case measure => have := HLQ.out; simp [intOf]; omega
                  · have v1 : ((i : Int) == (j : Int)) = false := by simpa using hne
                    have v2 : decide ((i : Int) = (j : Int)) = false := by simpa using hne
                    have v3 : decide (i = j) = false := by simp; omega
                    have HFL2 := hide (show flt (s.order.take (q + 1)) (j : Int) = flt (s.order.take q) (j : Int) ++ [i] from by rw [HFL.out, if_pos hne])
                    have HXI := hide (show fndB (kilS s j).all (i : Int) = some xi from by rw [kil_other HOK.out hne]; exact hxi)
                    obtain ⟨yi, hyi, hyn, hyt⟩ : ∃ yi, fndB sc.all (i : Int) = some yi ∧ yi.name = xi.name ∧ txc yi.b = tx xi.b := by
                      rcases HCO.out.get (i : Int) with ⟨h9, _⟩ | ⟨x9, y9, h9, h10, h11, h12⟩
                      · rw [hxi] at h9; cases h9
                      · rw [hxi] at h9
                        obtain rfl := Option.some.inj h9
                        exact ⟨y9, h10, h11, h12⟩
                    have HYI := hide hyi
                    have HYN := hide hyn
                    have HYT := hide hyt
                    clear hmq hrq hz8 hq hlq hi hxi hxm hxid hne hyi hyn hyt
                    have H9 := hide (H8.out.below (below_box wr (.cells #[.int .i64 (i : Int)] 3)))
                    go_wp2_with (at_builtin; refine wpList_append_sl rfl (.tmp 125) (.tmp 130) 32 rfl 3 i0 (.int .i64 0) 1 8 Tryz.underlying32 HJ.out HJ1.out HJ2.out HJ3.out rfl _ m1 (ints (flt (s.order.take q) (j : Int))) rfl (H9.out.rowSl (fun x hx => List.mem_append_left _ hx) (by rw [ints_size, HMQ.out, Nat.mul_one]) HRQ.out) _ rfl 1 [_] (rd_one _ _ _) ?one ?b1 ?b2 ?_)
                    case one => intro u hu; rcases List.mem_singleton.1 hu with rfl; rfl
                    case b1 => have := HM1Q.out; have := HLQ.out; unfold maxLen; omega
                    case b2 => have := HM1Q.out; have := HLQ.out; omega
                    intro v8 w8 s8 o8 b8
                    obtain ⟨B8, d8, rfl, _, _⟩ := Sl.form s8
                    have s8' : Sl w8 3 1 (.slice B8 (m1 + 1) d8) (m1 + 1) (ints (flt (s.order.take q) (j : Int) ++ [i])) := by rw [ints_snoc]; exact s8
                    have H10 := hide (H9.out.appended s8' o8 (by rcases b8 with h | h; exact .inl h; exact .inr (h.trans (congrArg some (World.size_alloc ..).symm)) ))
                    have HR8 := hide (Sl.rowOk s8')
                    have d10 := HWC.out w8 _ _ _ _ H10.out (fun x hx => List.mem_append_right _ (List.mem_append_right _ (List.mem_append_left _ hx))) q i HI.out
                    have HNS := H10.out.name (i : Int)
                    rw [show nameR (kilS s j) (i : Int) = .tuple #[.string xi.name, .bool true] from by unfold nameR; rw [HXI.out]] at HNS
                    have HNS := hide HNS
                    obtain ⟨HE, _, hlo⟩ := (H10.out.perm (List.perm_append_comm_assoc _ _ _)).flip HSC.out
                    have HLO := hide hlo
                    have HNO := hlo.name (i : Int)
                    rw [show nameR sc (i : Int) = .tuple #[.string xi.name, .bool true] from by unfold nameR; rw [HYI.out]; show Value.tuple #[.string yi.name, .bool true] = _; rw [HYN.out]] at HNO
                    have HNO := hide HNO
                    have HGS := hide (fun n => (show Calls Tryz.prog 16 #[.pointer (some ⟨sb, 0, none⟩), .int .i64 (i : Int)] (w8.drewN n) fun e w' => e = .returned (.pointer (some ⟨xi.b, 0, none⟩)) ∧ w' = w8.drewN n from by
                      have h9 := (H10.out.below (below_drewN (Below.refl _ _) n)).get (i : Int)
                      rw [show getR (kilS s j) (i : Int) = .pointer (some ⟨xi.b, 0, none⟩) from by unfold getR; rw [HXI.out]] at h9
                      exact h9.mono fun _ _ h => ⟨h.1, h.2.symm⟩))
                    have HGO := hide (fun n => (show Calls Tryz.prog 16 #[.pointer (some ⟨ob, 0, none⟩), .int .i64 (i : Int)] (w8.drewN n) fun e w' => e = .returned (.pointer (some ⟨yi.b, 0, none⟩)) ∧ w' = w8.drewN n from by
                      have h9 := (HLO.out.below (below_drewN (Below.refl _ _) n)).get (i : Int)
                      rw [show getR sc (i : Int) = .pointer (some ⟨yi.b, 0, none⟩) from by unfold getR; rw [HYI.out]] at h9
                      exact h9.mono fun _ _ h => ⟨h.1, h.2.symm⟩))
                    obtain ⟨St, hSt⟩ : ∃ St, St = strOf (tx xi.b).L := ⟨_, rfl⟩
                    have HAS := hide (fun n => (show Calls Tryz.prog 32 #[.pointer (some ⟨xi.b, 0, none⟩)] (w8.drewN n) (DrawsTo (w8.drewN n) (.string St)) from hSt ▸ (H10.out.below (below_drewN (Below.refl _ _) n)).text (fndB_mem HXI.out).1))
                    have HAO := hide (fun n => (show Calls Tryz.prog 32 #[.pointer (some ⟨yi.b, 0, none⟩)] (w8.drewN n) (DrawsTo (w8.drewN n) (.string St)) from by
                      have h9 := (HLO.out.below (below_drewN (Below.refl _ _) n)).text (fndB_mem HYI.out).1
                      rw [HYT.out] at h9
                      exact hSt ▸ h9))
                    obtain ⟨xn, hxn⟩ : ∃ xn, xn = xi.name := ⟨_, rfl⟩
                    rw [← hxn] at HNS HNO
                    have t1 : (xn.toList == xn.toList) = true := (Lib.bytes_beq_iff _ _).2 rfl
                    have t2 : (St.toList == St.toList) = true := (Lib.bytes_beq_iff _ _).2 rfl
                    clear s8 o8 b8 s8' hlo hSt hxn d0
                    go_wp2_with fail
                    refine (Calls.mono (HNS.out)) ?_
                    rintro e w9 ⟨rfl, rfl⟩
                    go_wp2_with fail
                    refine (Calls.mono (HNO.out)) ?_
                    rintro e w9 ⟨rfl, rfl⟩
                    go_upto_region 30 with fail
                    go_quiet ((go_at_call 16; first | (with_reducible refine Calls.quiet_of_same (HGS.out _)) | (with_reducible refine Calls.quiet_of_same (HGO.out _))))
                    go_wp2_with fail
                    refine Calls.mono (HAS.out _) ?_
                    rintro e w11 ⟨rfl, q2, rfl⟩
                    rw [World.drewN_drewN]
                    go_wp2_with fail
                    refine Calls.mono (HAO.out _) ?_
                    rintro e w12 ⟨rfl, q3, rfl⟩
                    rw [World.drewN_drewN]
                    go_wp2_with fail
                    go_roundw
                    case rel => exact ⟨q + 1, B8, d8, m1 + 1, HLQ.out, by go_num, rfl, by rw [HFL2.out, List.length_append, HMQ.out]; rfl, HR8.out, by rw [HFL2.out]; exact H10.out.below (below_drewN (Below.refl _ _) _)⟩
                    case measure => have := HLQ.out; simp [intOf]; omega
              · as_aux_lemma =>
                  have u1 : decide (q < m) = false := by simpa using hlq
                  have u2 : decide ((q : Int) < (m : Int)) = false := by simp; omega
                  have hqm : q = m := by omega
                  have HFE := hide (show flt (s.order.take q) (j : Int) = s.order.erase j from by rw [hqm, List.take_of_length_le (by rw [HM.out]; exact Nat.le_refl _)]; exact flt_erase HOK.out.onod j)
                  rw [HFE.out] at HMQ H8
                  have HLS := hide (H8.out.listO (by omega))
                  have HM1Q := hide hm1q
                  clear hmq hrq hz8 hq hlq hqm hm1q
                  go_wp2_with fail
                  refine (Calls.mono (HLS.out)) ?_
                  rintro e w9 ⟨v9, rfl, s9, f9, b9⟩
                  obtain ⟨A9, c9, rfl, _, _⟩ := Sl.form s9
                  have H9 := hide (H8.out.below b9)
                  have HSR := hide (show Sl w9 3 1 (.slice B m1 d) m1 (ints (s.order.erase j)) from H9.out.rowSl (fun x hx => List.mem_append_left _ hx) (by rw [ints_size, HMQ.out, Nat.mul_one]) HRQ.out)
                  have hko : (kilS s j).order = s.order.erase j := rfl
                  rw [hko] at s9 ⊢
                  rw [← HMQ.out] at s9 ⊢
                  have HSM := hide (same_ints w9 (s.order.erase j) m1 m1 A9 B c9 d HMQ.out HMQ.out (by have h9 := Sl.rd s9; rwa [← HMQ.out] at h9) HSR.out.rd (by have h8 : (s.order.erase j).length ≤ k + 1 + 1 := H8.out.len; omega))
                  clear s9 f9 b9 hko HLS
                  go_wp2_with fail
                  refine (Calls.mono (HSM.out)) ?_
                  rintro e w10 ⟨rfl, b10⟩
                  have H10 := hide (H9.out.below b10)
                  have HCU := hide (fun n => (show Calls Tryz.prog 21 #[.pointer (some ⟨sb, 0, none⟩)] (w10.drewN n) fun e w' => e = .returned (.int .i64 ((kilS s j).cur : Int)) ∧ w' = w10.drewN n from
                    ((H10.out.below (below_drewN (Below.refl _ _) n)).current).mono fun _ _ h => ⟨h.1, h.2.symm⟩))
                  by_cases hcu : s.cur = j
                  · have v1 : ((s.cur : Int) == (j : Int)) = true := by simp [hcu]
                    have v2 : decide ((s.cur : Int) = (j : Int)) = true := by simp [hcu]
                    have v3 : decide (s.cur = j) = true := by simpa using hcu
                    have hlen : 0 < m1 := by
                      rw [HMQ.out, ← show (kilS s j).order = s.order.erase j from rfl]
                      exact List.length_pos_of_mem H10.out.cu
                    obtain ⟨hd, tl, he⟩ : ∃ hd tl, s.order.erase j = hd :: tl := by
                      have h9 := hlen
                      rw [HMQ.out] at h9
                      exact List.exists_cons_of_length_pos h9
                    have HHD := hide (kil_cur hcu he)
                    rw [HHD.out] at HCU
                    obtain ⟨g9, o9, rfl⟩ := Rd.some_ HSR.out.rd hlen
                    have e0 : w10.cell? ⟨g9, o9, none⟩ = some (.int .i64 (hd : Int)) := by
                      obtain ⟨g', o', e1, h7⟩ := rd_cells (HSR.out.rd) hlen
                      injection e1 with e1
                      injection e1 with e2 e3 _
                      subst e2 e3
                      exact h7 w10 b10 0 _ (ints_at (by rw [he]; rfl))
                    have e1 : w10.cell? ⟨g9, o9 + 0, none⟩ = some (.int .i64 (hd : Int)) := e0
                    have y5 : decide (0 < m1) = true := by simpa using hlen
                    have y6 : (0 : Int) < (m1 : Int) := by omega
                    obtain ⟨sc9, hsc9⟩ : ∃ sc9, sc9 = s.cur := ⟨_, rfl⟩
                    rw [hcu]
                    clear b10 hcu he hlen hsc9 v1 v2 v3
                    go_upto_region 36 with fail
                    go_quiet ((go_at_call 21; refine Calls.quiet_of_same (HCU.out _)))
                    go_wp2_with fail
                    go_ret
                    exact ⟨rfl, HB0.out.trans ((H10.out.below (below_drewN (Below.refl _ _) _)).bel.mono HB0.out.size)⟩
                  · have v1 : ((s.cur : Int) == (j : Int)) = false := by simp; omega
                    have v2 : decide ((s.cur : Int) = (j : Int)) = false := by simp; omega
                    have v3 : decide (s.cur = j) = false := by simpa using hcu
                    have HC2 := hide (H10.out.current)
                    rw [kil_cur2 hcu] at HC2
                    clear b10 hcu
                    go_wp2_with fail
                    refine (Calls.mono (HC2.out)) ?_
                    rintro e w11 ⟨rfl, rfl⟩
                    go_wp2_with fail
                    go_ret
                    exact ⟨rfl, HB0.out.trans (H10.out.bel.mono HB0.out.size)⟩
end Go.Proofs.YtnbhejbpofjamaaGreatDoor
