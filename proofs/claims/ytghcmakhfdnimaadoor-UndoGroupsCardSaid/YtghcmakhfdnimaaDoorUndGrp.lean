/- UndoGroups returns true for every list of acts. No condition but those written. -/
import Derived.Test.YtghcmakhfdnimaaDoorUndT
namespace Go.Proofs.YtghcmakhfdnimaaDoor
open Go.RowKit
attribute [local go_sem 2000] neq_chg

/-- What stands where the last group of the list is the open one, or is new. -/
theorem grps_snoc {hs : List (Value × List Chg)} {g : List (List Chg)} {o : List Chg} (h : grps hs = g ++ [o]) : ∃ hs0 x, hs = hs0 ++ [(x, o)] ∧ grps hs0 = g := by
  have hne : hs ≠ [] := fun e => by rw [e] at h; have := congrArg List.length h; simp [grps] at this
  obtain ⟨hs0, ⟨x, o'⟩, rfl⟩ : ∃ hs0 y, hs = hs0 ++ [y] := ⟨hs.dropLast, hs.getLast hne, (List.dropLast_concat_getLast hne).symm⟩
  simp only [grps, List.map_append, List.map_cons, List.map_nil] at h
  obtain ⟨e1, e2⟩ := List.append_inj' h rfl
  simp at e2
  subst e2
  exact ⟨hs0, x, rfl, e1⟩
structure Pre (s : Lg) (g : List (List Chg)) (o : List Chg) : Prop where
  all : s.all = if s.O = [] then g else g ++ [o]
  nil : s.O = [] → o = []
  eq : s.O ≠ [] → s.O = o
set_option maxRecDepth 100000 in
set_option maxHeartbeats 8000000 in
theorem groups_walk (l : List Acn) (v : Value) (W : World) (hT : Rules W) (hr : Rd W v 11 l.length (rows Acn.cells l)) (hm : l.length ≤ maxLen) :
    Calls Tryd.prog 4 #[v] W fun e w' => e = .returned (.bool true) ∧ Below W.heap.size W w' := by
  have HT := hide hT
  have HR := hide hr
  have HM := hide hm
  clear hT hr hm
  go_enter Tryd.func4, Tryd.ntmps4
  go_wp2_with fail
  refine (lives_any W HT.out).mono ?_
  rintro e w1 ⟨rfl, b1⟩
  have HB1 := hide b1
  clear b1
  go_wp2_with fail
  refine (light_any l v w1 (HR.out.belowR HB1.out) HM.out).mono ?_
  rintro e w2 ⟨rfl, rfl⟩
  cases hlight : lightB l with
  | false =>
    go_wp2
    go_ret
    exact ⟨rfl, HB1.out⟩
  | true =>
    have HLI := hide (lightB_iff.1 hlight)
    clear hlight
    go_wp2_with fail
    refine (new_ok (W := W) (L := []) ⟨HB1.out, by simp [Heap.blocks], fun x hx => by cases hx⟩ 1048576 (by omega) (by omega)).mono ?_
    rintro e w3 ⟨rfl, h3⟩
    obtain ⟨lb, hlb⟩ : ∃ lb, lb = w1.heap.size := ⟨_, rfl⟩
    rw [← hlb] at h3 ⊢
    have H3 := hide h3
    clear h3 hlb
    obtain ⟨A, cp, rfl, _⟩ := id HR.out
    obtain ⟨N, hN⟩ : ∃ N, N = l.length := ⟨_, rfl⟩
    rw [← hN] at HR ⊢
    have hN60 : N ≤ 60 := by rw [hN]; exact HLI.out.2
    have HNN := hide hN
    clear hN HM
    go_wp2
    go_loopw [5, 6, 7] (fun wv op i wr => ∃ (k : Nat) (bb : Lb) (s : Lg) (hs : List (Value × List Chg)) (em : Bool), k ≤ N ∧ i = .int .i64 (k : Int) ∧ bb.lb = lb ∧ op = .bool em ∧ em = (!s.O.isEmpty) ∧ LogAt W wr bb s (gosHeap wv hs ++ []) ∧ GosOk wv hs ∧ Same s (grps hs) k) (fun _ _ i _ => N - (intOf i).toNat)
    case atStart => exact ⟨0, _, _, [], false, Nat.zero_le _, rfl, rfl, rfl, rfl, H3.out, GosOk.nil, Same.start⟩
    case round =>
      obtain ⟨k, ⟨lb1, gv1, ov1, gs1⟩, s, hs, em, hk, rfl, e1, rfl, hem, h, okh, hsm⟩ := hrel
      have HEM := hide hem
      clear hem
      obtain rfl : lb = lb1 := e1.symm
      have HOKH := hide okh
      have HSM := hide hsm
      by_cases hlt : k < N
      · have y1 : decide (k < N) = true := by simpa using hlt
        have y2 : decide ((k : Int) < (N : Int)) = true := by simp; omega
        obtain ⟨g, off, rfl⟩ := HR.out.some_ (by omega)
        obtain ⟨a, ha⟩ : ∃ a, l[k]? = some a := ⟨_, List.getElem?_eq_getElem (by rw [← HNN.out]; exact hlt)⟩
        have HACT := hide (fun (w' : World) (hb : Below W.heap.size W w') => Rd.atA (HR.out.belowR hb) ha)
        have HTX := hide (HLI.out.1 a (List.mem_of_getElem? ha))
        have q10 := (HACT.out _ h.own.bel).p10
        have H := hide h
        clear h okh hsm ha
        go_upto_if 39 with fail
        go_cut [6] (fun op wx => ∃ (bb : Lb) (s : Lg) (em : Bool), bb.lb = lb ∧ op = .bool em ∧ em = (!s.O.isEmpty) ∧ LogAt W wx bb s (gosHeap u5 hs ++ []) ∧ Same s (grps hs) k)
        case first =>
          cases hag : a.ag with
          | false =>
            rw [hag] at q10
            go_wp2_with fail
            go_meet
            exact ⟨⟨lb, gv1, ov1, gs1⟩, s, em, rfl, rfl, HEM.out, H.out, HSM.out⟩
          | true =>
            rw [hag] at q10
            have HCL := hide (HSM.out.close (by omega))
            have HOE := hide (close_O HSM.out.gd)
            go_wp2_with fail
            refine (boundary_any H.out HSM.out.gd (HSM.out.sz.small (by omega)) HT.out).mono ?_
            rintro e w8 ⟨rfl, ⟨lb8, gv8, ov8, gs8⟩, hb8, h8⟩
            obtain rfl : lb = lb8 := hb8.symm
            have H8 := hide h8
            clear h8
            go_wp2_with fail
            go_meet
            exact ⟨⟨lb, gv8, ov8, gs8⟩, s.close, false, rfl, rfl, by rw [HOE.out]; rfl, H8.out, HCL.out⟩
        case rest =>
          clear q10 H HSM
          obtain ⟨⟨lb2, gv2, ov2, gs2⟩, s1, em1, e2, rfl, hem1, h2, hsm2⟩ := hcut
          have HEM1 := hide hem1
          obtain rfl : lb = lb2 := e2.symm
          obtain ⟨q0, q1, q2, q3, q4, q5, q6, q7, q8, q9, q10⟩ := HACT.out _ h2.own.bel
          have H2 := hide h2
          have HSM2 := hide hsm2
          clear h2 hsm2 q0 q10 hem1
          go_wp2_with fail
          refine (add_any H2.out HSM2.out.gd (HSM2.out.sz.small (by omega)) HT.out a.c (by have := HTX.out; omega)).mono ?_
          rintro e w3 ⟨rfl, ⟨lb3, gv3, ov3, gs3⟩, hb3, h3⟩
          obtain rfl : lb = lb3 := hb3.symm
          have H3 := hide h3
          clear h3 q1 q2 q3 q4 q5 q6 q7 q8 q9
          by_cases hc : a.c.check = 0
          · have zc : (a.c.check != 0) = false := by simp [hc]
            have HCK := hide hc
            clear hc
            obtain ⟨i0, hi, hj0, hj1, hj2⟩ := info_parts info_chgs
            have HI := hide hi
            have HZ := hide hj0
            have HZ1 := hide hj1
            have HZ2 := hide hj2
            obtain ⟨i9, hi9, hj09, hj19, hj29⟩ := info_parts info_chg
            have HI9 := hide hi9
            have HZ9 := hide hj09
            have HZ19 := hide hj19
            have HZ29 := hide hj29
            clear hi hj0 hj1 hj2 hi9 hj09 hj19 hj29
            have HHL := hide (show hs.length ≤ 1000 by have h1 := congrArg List.length HSM2.out.all; have h2 := HSM2.out.sz.many; rw [h1] at h2; simp [grps] at h2; omega)
            go_upto_if 52 with fail
            go_cut [5, 6] (fun wv op wx => ∃ (hs0 : List (Value × List Chg)) (x : Value) (o : List Chg), op = .bool true ∧ LogAt W wx ⟨lb, gv3, ov3, gs3⟩ (s1.add a.c) (gosHeap wv (hs0 ++ [(x, o)]) ++ []) ∧ GosOk wv (hs0 ++ [(x, o)]) ∧ Pre s1 (grps hs0) o)
            case first =>
              cases em1 with
              | false =>
                have hO : s1.O = [] := by have := HEM1.out; simpa using this
                have HPRE := hide (show Pre s1 (grps hs) [] from ⟨by rw [if_pos hO]; exact HSM2.out.all, fun _ => rfl, fun q => absurd hO q⟩)
                clear hO
                have HSL := hide ((H3.out.skip (.cells #[.slice none 0 0] 40)).own.gosSl (v := u5) (hs := hs) (fun y hy => by simp only [List.mem_append]; exact .inr (.inl hy)) HOKH.out)
                have hhs := HHL.out
                go_wp2_with (at_builtin; go_loud (refine wpList_append_sl rfl (.tmp 53) (.tmp 54) 47 rfl 40 i0 _ 1 24 Tryd.underlying47 HI.out HZ.out HZ1.out HZ2.out rfl u5 hs.length (hs.map fun x : Value × List Chg => x.1) rfl HSL.out _ rfl 1 _ (rd_one w3 40 (.slice none 0 0)) ?one ?b1 ?b2 ?_))
                case one => intro u hu; simp at hu; subst hu; rfl
                case b1 => unfold maxLen; omega
                case b2 => omega
                intro v' w6 hs6 ho6 hv6
                have HR6 := hide (LogAt.gosSnoc (x := .slice none 0 0) (l := []) (v := u5) (hs := hs) (R := []) (H3.out.skip (.cells #[.slice none 0 0] 40)) hs6 ho6 (by simpa using hv6))
                have HO6 := hide (HOKH.out.snoc (l := []) hs6.rowOk RowOk.nil)
                clear hs6 ho6 hv6 HSL
                go_wp2_with fail
                go_meet
                exact ⟨hs, .slice none 0 0, [], rfl, HR6.out, HO6.out, HPRE.out⟩
              | true =>
                have hO : s1.O ≠ [] := by have := HEM1.out; intro q; rw [q] at this; simp at this
                obtain ⟨hs0, x, rfl, hg0⟩ := grps_snoc (HSM2.out.all.symm.trans (all_append s1 hO))
                have HPRE := hide (show Pre s1 (grps hs0) s1.O from ⟨by rw [if_neg hO, hg0]; exact all_append s1 hO, fun q => absurd q hO, fun _ => rfl⟩)
                clear hO hg0
                go_wp2_with fail
                go_meet
                exact ⟨hs0, x, s1.O, rfl, H3.out, HOKH.out, HPRE.out⟩
            case rest =>
              clear H3 HHL HOKH
              obtain ⟨hs0, x, o, rfl, h4, ok4, hpre⟩ := hcut
              have HSMX := hide (show Same s1 (if s1.O = [] then grps hs0 else grps hs0 ++ [o]) k from ⟨HSM2.out.gd, HSM2.out.sz, HSM2.out.lim, hpre.all⟩)
              have hol : o.length ≤ 1000 := by
                by_cases q : s1.O = []
                · rw [hpre.nil q]; simp
                · rw [← hpre.eq q]; have := HSM2.out.sz.lenO; omega
              have hhl : hs0.length ≤ 1000 := by
                have h1 := congrArg List.length hpre.all
                have h2 := HSM2.out.sz.many
                split at h1
                · simp [grps] at h1; omega
                · simp [grps] at h1; omega
              have hslx := h4.own.gosEl (v := u5) (hs := hs0 ++ [(x, o)]) (fun y hy => by simp only [List.mem_append]; exact .inr (.inl hy)) ok4 (x := (x, o)) (by simp)
              have hslw := h4.own.gosSl (v := u5) (hs := hs0 ++ [(x, o)]) (fun y hy => by simp only [List.mem_append]; exact .inr (.inl hy)) ok4
              rw [show (hs0 ++ [(x, o)]).length = hs0.length + 1 by simp] at hslw
              obtain ⟨gw, ow, cw, hvw, hcw, hcwm, hcellw, hfzw, _⟩ := hslw.at_ (by omega)
              obtain ⟨Ax, cx, hvx, hcx, hcxm⟩ := hslx.form
              simp only at hvx hcx
              subst hvx
              have d0 := hcellw hs0.length (.slice Ax o.length cx) (by simp)
              obtain ⟨nl, hnl⟩ : ∃ nl, nl = o.length := ⟨_, rfl⟩
              obtain ⟨nh, hnh⟩ : ∃ nh, nh = hs0.length := ⟨_, rfl⟩
              rw [← hnl] at d0 hcx hol
              rw [← hnh] at hvw hcw hhl d0
              have f0 := hfzw (ow + nh)
              have HNL := hide hnl
              have HNH := hide hnh
              have HPRE := hide hpre
              have H4 := hide h4
              have HOK4 := hide ok4
              have HSLX := hide hslx
              have HACT4 := hide (HACT.out _ h4.own.bel)
              have hi0 : ((nh : Int) + 1 - 1).toNat = nh := by omega
              have hi1 : (0 : Int) ≤ (nh : Int) := by omega
              have hi2 : (nh : Int) < (nh : Int) + 1 := by omega
              obtain ⟨uw, huw⟩ : ∃ uw, uw = u5 := ⟨_, rfl⟩
              rw [← huw] at H4 HOK4 ⊢
              rw [← huw] at hvw
              subst hvw
              clear h4 ok4 hpre hslx hslw hcellw hfzw hnl hnh huw
              go_upto_region 22 with fail
              obtain ⟨w5, rfl⟩ : ∃ w5 : World, w5 = wc := ⟨_, rfl⟩
              go_cut [104] (fun v wx => v = .bool (s1.joins a.c) ∧ ∃ q, wx = w5.drewN q)
              case first =>
                have q1 := HACT4.out.p1
                have q2 := HACT4.out.p2
                cases hj : s1.joins a.c with
                | true =>
                  have HJ := hide hj
                  obtain ⟨y, hy, hck, hyk, hyt⟩ := joins_yes hj
                  have hO : s1.O ≠ [] := fun q => by rw [q] at hy; simp at hy
                  have hoe := HPRE.out.eq hO
                  rw [hoe] at hy
                  obtain ⟨m, hmm⟩ : ∃ m, nl = m + 1 := ⟨nl - 1, by have := (List.getElem?_eq_some_iff.1 hy).1; rw [← HNL.out] at this; omega⟩
                  rw [← HNL.out, hmm, Nat.add_sub_cancel] at hy
                  obtain ⟨gx, ox, cx', hvx', _, _, _, _, hat⟩ := Sl.atC (L := o) HSLX.out (by rw [← HNL.out]; omega)
                  obtain ⟨rfl, rfl⟩ : Ax = some ⟨gx, ox, none⟩ ∧ cx = cx' := by
                    injection hvx' with r1 _ r2
                    exact ⟨r1, r2⟩
                  obtain ⟨p0, -, p2, -, -, -, -, -, -⟩ := hat m y hy
                  rw [hyk] at p0
                  rw [hyt] at p2
                  rw [hck] at q1
                  subst hmm
                  have hi3 : (0 : Int) ≤ (m : Int) := by omega
                  have hi4 : (m : Int) < (m : Int) + 1 := by omega
                  clear hy hck hyk hyt hO hoe hat hvx' hj
                  go_wp2_with fail
                  go_quiet (fail)
                  go_wp2_with fail
                  go_meet
                  exact ⟨by rw [HJ.out], _, rfl⟩
                | false =>
                  have HJ := hide hj
                  rcases joins_no hj with hO | ⟨m, y, hml, hy, hcase⟩
                  · obtain rfl : nl = 0 := by rw [HNL.out, HPRE.out.nil hO]; rfl
                    clear hO hj
                    go_wp2_with fail
                    go_quiet (fail)
                    go_wp2_with fail
                    go_meet
                    exact ⟨by rw [HJ.out], _, rfl⟩
                  · have hO : s1.O ≠ [] := fun q => by rw [q] at hml; simp at hml
                    have hoe := HPRE.out.eq hO
                    rw [hoe] at hy hml
                    rw [← HNL.out] at hml
                    obtain ⟨gx, ox, cx', hvx', _, _, _, _, hat⟩ := Sl.atC (L := o) HSLX.out (by rw [← HNL.out]; omega)
                    obtain ⟨rfl, rfl⟩ : Ax = some ⟨gx, ox, none⟩ ∧ cx = cx' := by
                      injection hvx' with r1 _ r2
                      exact ⟨r1, r2⟩
                    obtain ⟨p0, -, p2, -, -, -, -, -, -⟩ := hat m y hy
                    subst hml
                    have hi3 : (0 : Int) ≤ (m : Int) := by omega
                    have hi4 : (m : Int) < (m : Int) + 1 := by omega
                    clear hy hO hoe hat hvx' hj
                    rcases hcase with r1 | ⟨r1, r2⟩ | ⟨r1, r2, r3⟩
                    · have hz1 : (a.c.k == 1) = false := by simpa using r1
                      clear r1
                      go_wp2_with fail
                      go_quiet (fail)
                      go_wp2_with fail
                      go_meet
                      exact ⟨by rw [HJ.out], _, rfl⟩
                    · have hz1 : (a.c.k == 1) = true := by simpa using r1
                      have hz2 : (y.k == 1) = false := by simpa using r2
                      clear r1 r2
                      go_wp2_with fail
                      go_quiet (fail)
                      go_wp2_with fail
                      go_meet
                      exact ⟨by rw [HJ.out], _, rfl⟩
                    · have hz1 : (a.c.k == 1) = true := by simpa using r1
                      have hz2 : (y.k == 1) = true := by simpa using r2
                      have hz3 : (y.t == a.c.a) = false := by simpa using r3
                      clear r1 r2 r3
                      go_wp2_with fail
                      go_quiet (fail)
                      go_wp2_with fail
                      go_meet
                      exact ⟨by rw [HJ.out], _, rfl⟩
              case rest =>
                obtain ⟨rfl, q, hw7⟩ := hcut
                obtain ⟨w7, rfl⟩ : ∃ w7 : World, w7 = wc := ⟨_, rfl⟩
                have H5 := hide (show LogAt W w7 _ _ _ from by rw [hw7]; exact H4.out.drewN q)
                have HSL5 := hide (show Sl w7 51 9 (.slice Ax o.length cx) o.length (rows Chg.cells o) from by rw [hw7]; exact HSLX.out.drewN q)
                have HACT5 := hide (HACT.out w7 H5.out.own.bel)
                have e0 : w7.cell? ⟨gw, ow + nh, none⟩ = some (.slice Ax nl cx) := by rw [hw7]; exact d0
                clear d0 f0 H4 HSLX HACT4 hw7
                obtain ⟨-, q1, q2, q3, q4, q5, q6, q7, q8, q9, -⟩ := HACT5.out
                cases hj : s1.joins a.c with
                | true =>
                  obtain ⟨y, hy, hck, hyk, hyt⟩ := joins_yes hj
                  have hO : s1.O ≠ [] := fun q => by rw [q] at hy; simp at hy
                  have hoe := HPRE.out.eq hO
                  rw [hoe] at hy
                  obtain ⟨m, hmm⟩ : ∃ m, nl = m + 1 := ⟨nl - 1, by have := (List.getElem?_eq_some_iff.1 hy).1; rw [← HNL.out] at this; omega⟩
                  have hlen := lengthen_eq (t := a.c.t) hy
                  rw [← HNL.out, hmm, Nat.add_sub_cancel] at hy hlen
                  obtain ⟨gx, ox, cx', hvx', _, _, _, hfz, hat⟩ := Sl.atC (L := o) HSL5.out (by rw [← HNL.out]; omega)
                  obtain ⟨rfl, rfl⟩ : Ax = some ⟨gx, ox, none⟩ ∧ cx = cx' := by
                    injection hvx' with r1 _ r2
                    exact ⟨r1, r2⟩
                  obtain ⟨-, -, p2, -, -, -, -, -, -⟩ := hat m y hy
                  have f2 := hfz (ox + m * 9 + 2)
                  have hsm5 := HSMX.out
                  rw [if_neg hO] at hsm5
                  have HJOIN := hide (hsm5.join hO (by omega) HTX.out HCK.out hj)
                  have HNEW := hide (H5.out.lastTo (t := a.c.t) hy)
                  have HLEN := hide hlen
                  have HOK5 := hide (show GosOk (.slice (some ⟨gw, ow, none⟩) (nh + 1) cw) (hs0 ++ [(.slice (some ⟨gx, ox, none⟩) o.length cx, o.set m { y with t := a.c.t })]) from
                    ⟨by rw [show (hs0 ++ [(Value.slice (some ⟨gx, ox, none⟩) o.length cx, o.set m { y with t := a.c.t })]).length = (hs0 ++ [(Value.slice (some ⟨gx, ox, none⟩) o.length cx, o)]).length by simp]; exact HOK4.out.hd, fun z hz => by
                      rcases List.mem_append.1 hz with hz | hz
                      · exact HOK4.out.el z (List.mem_append_left _ hz)
                      · simp at hz
                        subst hz
                        exact RowOk.some (g := gx) rfl⟩)
                  subst hmm
                  have hi3 : (0 : Int) ≤ (m : Int) := by omega
                  have hi4 : (m : Int) < (m : Int) + 1 := by omega
                  clear hy hck hyk hyt hO hoe hat hvx' hj hfz hsm5 hlen
                  go_wp2_with fail
                  go_region
                  go_wp2
                  go_roundw
                  case rel => exact ⟨k + 1, ⟨lb, gv3, ov3, gs3⟩, _, hs0 ++ [(.slice (some ⟨gx, ox, none⟩) o.length cx, o.set m { y with t := a.c.t })], true, by omega, by go_num, rfl, rfl, by have := HJOIN.out.2.2.2; cases h : (s1.add a.c).O <;> simp_all, HNEW.out.drew, HOK5.out, by
                    have := HJOIN.out.2.2.1
                    rw [HLEN.out] at this
                    simpa [grps] using this⟩
                  case measure => simp [intOf]; omega
                | false =>
                  have HPUSH := hide (HSMX.out.push HPRE.out.nil (by omega) HTX.out HCK.out hj)
                  have hgw : gw < w7.heap.size := World.block_lt_of_cell? _ _ e0
                  have hbb := (Below.refl w7.heap.size w7).alloc (Nat.le_refl _) (.cells #[.int .i64 a.c.k, .int .i64 a.c.a, .int .i64 a.c.t, .int .i64 a.c.id, .int .i64 a.c.nm, .string a.c.tx, .int .i64 a.c.vk, .int .i64 a.c.vn, .bool a.c.had] 51)
                  have e1 : (w7.alloc (.cells #[.int .i64 a.c.k, .int .i64 a.c.a, .int .i64 a.c.t, .int .i64 a.c.id, .int .i64 a.c.nm, .string a.c.tx, .int .i64 a.c.vk, .int .i64 a.c.vn, .bool a.c.had] 51)).cell? ⟨gw, ow + nh, none⟩ = some (.slice Ax nl cx) := (hbb.cell (p := ⟨gw, ow + nh, none⟩) hgw).trans e0
                  have HSLA := hide (show Sl (w7.drew.alloc (.cells #[.int .i64 a.c.k, .int .i64 a.c.a, .int .i64 a.c.t, .int .i64 a.c.id, .int .i64 a.c.nm, .string a.c.tx, .int .i64 a.c.vk, .int .i64 a.c.vn, .bool a.c.had] 51)) 51 9 (.slice Ax nl cx) nl (rows Chg.cells o) by rw [HNL.out]; exact (Sl.drew HSL5.out).alloc _)
                  have hx := H5.out.drew.skip (.cells #[.int .i64 a.c.k, .int .i64 a.c.a, .int .i64 a.c.t, .int .i64 a.c.id, .int .i64 a.c.nm, .string a.c.tx, .int .i64 a.c.vk, .int .i64 a.c.vn, .bool a.c.had] 51)
                  rw [HNH.out] at hx
                  have HX := hide hx
                  clear hj hbb hx hgw
                  go_wp2_with fail
                  go_region_law
                    ((refine step_append_sl rfl (.tmp 124) (.tmp 130) 40 rfl 51 i9 _ 9 80 Tryd.underlying40 HI9.out HZ9.out HZ19.out HZ29.out rfl (.slice Ax nl cx) nl (rows Chg.cells o) rfl HSLA.out _ rfl 1 _ (rd_elem w7.drew 51 9 (Chg.cells a.c) rfl) (chg_one _) (by unfold maxLen; omega) (by omega) ?_; intro v' w6 hs6 ho6 hv6; have HK6 := hide hs6.rowOk; rw [HNL.out] at hs6 ho6 hv6; have hadd := HX.out.lastPush (d := a.c) hs6 ho6 (by simpa using hv6); rw [← HNH.out] at hadd; rw [← HNL.out] at hs6; obtain ⟨A6, d6, rfl, _⟩ := hs6.form; have x1 := hadd.1.1; have x2 := hadd.1.2; have HN6 := hide hadd.2; clear hs6 ho6 hv6 hadd))
                  all_goals
                    go_wp2
                    go_roundw
                    case rel => exact ⟨k + 1, ⟨lb, gv3, ov3, gs3⟩, _, hs0 ++ [(.slice A6 (nl + 1) d6, o ++ [a.c])], true, by omega, by go_num, rfl, rfl, by have := HPUSH.out.2; cases h : (s1.add a.c).O <;> simp_all, HN6.out, ⟨by
                      have := HOK4.out.hd
                      rw [show (hs0 ++ [(Value.slice A6 (nl + 1) d6, o ++ [a.c])]).length = (hs0 ++ [(Value.slice Ax o.length cx, o)]).length by simp]
                      exact this, fun z hz => by
                        rcases List.mem_append.1 hz with hz | hz
                        · exact HOK4.out.el z (List.mem_append_left _ hz)
                        · simp at hz
                          subst hz
                          rw [show (o ++ [a.c]).length = nl + 1 by rw [HNL.out]; simp]
                          exact HK6.out⟩, by
                      have := HPUSH.out.1
                      simpa [grps] using this⟩
                    case measure => simp [intOf]; omega
          · have zc : (a.c.check != 0) = true := by simpa using hc
            have HBD := hide (HSM2.out.bad hc)
            have HEQ := hide (show s1.add a.c = s1 by unfold Lg.add; rw [if_neg hc])
            clear hc
            go_wp2
            go_roundw
            case rel => exact ⟨k + 1, ⟨lb, gv3, ov3, gs3⟩, _, hs, em1, by omega, by go_num, rfl, rfl, by rw [HEQ.out]; exact HEM1.out, H3.out, HOKH.out, HBD.out⟩
            case measure => simp [intOf]; omega
      · obtain rfl : k = N := by omega
        have y1 : decide (k < k) = false := by simp
        have y2 : decide ((k : Int) < (k : Int)) = false := by simp
        have hcnt : hs.length ≤ 61 := by
          have h1 := congrArg List.length hsm.all
          have h2 := hsm.sz.many
          simp [grps] at h1
          omega
        have hlen : ∀ g ∈ grps hs, g.length ≤ 1000000 := fun g hg => by
          have := hsm.sz.len g (by rw [hsm.all]; exact hg)
          omega
        have HLEN := hide hlen
        obtain ⟨m, hm⟩ : ∃ m, m = hs.length := ⟨_, rfl⟩
        obtain ⟨Aw, cw, hvw, hcw, hcwm⟩ := (h.own.gosSl (v := u5) (hs := hs) (fun y hy => by simp only [List.mem_append]; exact .inr (.inl hy)) okh).form
        rw [← hm] at hvw hcw hcnt
        subst hvw
        have HM := hide hm
        have HCNT := hide hcnt
        have HCW := hide hcw
        have H := hide h
        clear h okh hsm hm hlen hlt hk
        go_wp2_with fail
        refine (all_any H.out HSM.out.gd.lim1 (HSM.out.sz.small (by omega))).mono ?_
        rintro e w6 ⟨va, ha, rfl, hma, h6, oka⟩
        have ra := h6.own.rdG (v := va) (hs := ha) (fun y hy => by simp only [List.mem_append]; exact .inr (.inl hy)) oka
        have rb := h6.own.rdG (v := .slice Aw m cw) (hs := hs) (fun y hy => by simp only [List.mem_append]; exact .inr (.inr (.inl hy))) HOKH.out
        have hga : grps ha = grps hs := hma.trans HSM.out.all
        have hle : ha.length = hs.length := by have := congrArg List.length hga; simpa [grps] using this
        have hsame := same19_any ha hs va (.slice Aw m cw) w6 ra rb (by rw [hle, ← HM.out]; omega) (by rw [← HM.out]; omega) (fun x hx => HLEN.out x.2 (by rw [← hga]; exact List.mem_map_of_mem hx)) (fun x hx => HLEN.out x.2 (List.mem_map_of_mem hx))
        rw [isB_true hga] at hsame
        have HSAME := hide hsame
        have H6 := hide (h6.sub (R' := gosHeap (.slice Aw m cw) hs ++ []) (List.sublist_append_right _ _))
        clear ra rb hga hle hsame h6 oka hma H
        go_wp2_with fail
        refine (Calls.mono HSAME.out) ?_
        rintro e w7 ⟨rfl, q, rfl⟩
        have H7 := hide (H6.out.drewN q)
        clear H6 HSAME
        go_wp2_with fail
        refine (many_any H7.out HSM.out.gd.lim1 (by have := HSM.out.sz.manyG; omega)).mono ?_
        rintro e w8 ⟨rfl, rfl⟩
        rw [show (s.all.length : Int) = (m : Int) by rw [HSM.out.all, HM.out]; simp [grps]]
        go_wp2
        go_loopw [10] (fun i wr => ∃ (kk : Int) (bb : Lb) (s : Lg), -1 ≤ kk ∧ kk < (m : Int) ∧ i = .int .i64 kk ∧ bb.lb = lb ∧ LogAt W wr bb s (gosHeap (.slice Aw m cw) hs ++ []) ∧ Chain s (grps hs) k kk) (fun i _ => (intOf i + 1).toNat)
        case atStart => exact ⟨(m : Int) - 1, _, s, by omega, by omega, by go_num, rfl, H7.out, by have := Chain.start HSM.out (by omega); rw [show (grps hs).length = m by rw [HM.out]; simp [grps]] at this; exact this⟩
        case round =>
          clear H7 HSM HEM
          obtain ⟨kk, ⟨lb2, gv2, ov2, gs2⟩, s2, hk0, hk1, rfl, e2, h2, hch⟩ := hrel
          obtain rfl : lb = lb2 := e2.symm
          have H2 := hide h2
          have HCH := hide hch
          have hS2 := hch.sm.sz.small (by omega)
          have hal2 : s2.all.length ≤ 1000000 := by have := hch.sm.sz.many; omega
          by_cases hneg : kk < 0
          · obtain rfl : kk = -1 := by omega
            have HDONE := hide (hch.done (by omega))
            clear h2 hch
            go_wp2_with fail
            refine (undo_any H2.out HCH.out.sm.gd hS2 HT.out hal2 true).mono ?_
            rintro e w9 ⟨b9, v9, hb9, rfl, h9, ok9⟩
            rw [HDONE.out]
            have HB9 := hide h9.own.bel
            clear h9 ok9
            go_wp2
            go_ret
            exact ⟨rfl, HB9.out⟩
          · obtain ⟨j, rfl⟩ : ∃ j : Nat, kk = (j : Int) := ⟨kk.toNat, by omega⟩
            have hjm : j < m := by omega
            obtain ⟨x, hx⟩ : ∃ x, hs[j]? = some x := ⟨_, List.getElem?_eq_getElem (by rw [← HM.out]; exact hjm)⟩
            have hgl : (grps hs).length = m := by rw [HM.out]; simp [grps]
            have hgj : (grps hs)[j]? = some x.2 := by simp only [grps, List.getElem?_map, hx]; rfl
            have hnx := HCH.out.next (by omega) (by rw [hgl]; exact hjm)
            rw [hgl, hgj] at hnx
            obtain ⟨hC, hE, hU, hch2, hO2⟩ := hnx
            have hU : s2.undone (decide ((j : Int) < (m : Int) - 1)) = x.2.reverse := hU
            obtain ⟨ag, hag⟩ : ∃ ag, decide ((j : Int) < (m : Int) - 1) = ag := ⟨_, rfl⟩
            rw [hag] at hC hE hU hch2 hO2
            have HC := hide hC
            have HE := hide hE
            have HU := hide hU
            have HCC := hide hch2
            have HO2 := hide hO2
            have HX := hide hx
            have y3 : (0 : Int) ≤ (j : Int) := by omega
            have y4 : (j : Int) < (m : Int) := by omega
            have y5 : decide (j < m) = true := by simpa using hjm
            clear h2 hch hneg hk0 hk1 hC hE hU hch2 hO2 hgj hgl hx
            go_wp2_with fail
            refine (undo_any H2.out HCH.out.sm.gd hS2 HT.out hal2 ag).mono ?_
            rintro e w9 ⟨⟨lb9, gv9, ov9, gs9⟩, v9, hb9, rfl, h9, ok9⟩
            obtain rfl : lb = lb9 := hb9.symm
            rw [HE.out]
            rw [HU.out] at h9 ok9
            have hr := h9.rdC ok9
            have hrg := h9.own.rdG (v := .slice Aw m cw) (hs := hs) (fun y hy => by simp only [List.mem_append]; exact .inr (.inr (.inl hy))) HOKH.out
            rw [HM.out] at hrg
            obtain ⟨gw, ow, rfl, r1, B1, b1, ex, rx⟩ := hrg.at_ HX.out
            obtain ⟨x1, l⟩ := x
            simp only at ex rx r1 hr ok9 h9
            subst ex
            have ll : l.length ≤ 1000000 := HLEN.out l (List.mem_map_of_mem (f := fun x : Value × List Chg => x.2) (List.mem_of_getElem? HX.out))
            obtain ⟨A9, c9, rfl, _⟩ := id hr
            obtain ⟨nl, hnl⟩ : ∃ nl, nl = l.length := ⟨_, rfl⟩
            rw [← hnl] at r1 rx ll
            rw [List.length_reverse, ← hnl] at hr ok9 h9 ⊢
            have HNL := hide hnl
            have HR := hide hr
            have HRX := hide rx
            have HOK9 := hide ok9
            have H9 := hide h9
            have hz : ((nl : Int) != (nl : Int)) = false := by simp
            clear hr rx ok9 h9 hnl hrg HU HE H2
            go_wp2_with fail

            go_wp2_with fail
            go_loopw [13] (fun i wr => ∃ p q : Nat, p ≤ nl ∧ i = .int .i64 (p : Int) ∧ wr = w9.drewN q) (fun i _ => nl - (intOf i).toNat)
            case atStart => exact ⟨0, 0, by omega, by go_num, rfl⟩
            case round =>
              obtain ⟨p, q, hp, rfl, rfl⟩ := hrel
              by_cases hpl : p < nl
              · have z3 : decide (p < nl) = true := by simpa using hpl
                have z4 : decide ((p : Int) < (nl : Int)) = true := by simp; omega
                have z6 : (p : Int) < (nl : Int) := by omega
                obtain ⟨d, hd⟩ : ∃ d, nl - 1 - p = d := ⟨_, rfl⟩
                have hdl : d < nl := by omega
                obtain ⟨c, hc⟩ : ∃ c, l[d]? = some c := ⟨_, List.getElem?_eq_getElem (by rw [← HNL.out]; exact hdl)⟩
                have hcr : l.reverse[p]? = some c := by
                  rw [List.getElem?_reverse (by rw [← HNL.out]; exact hpl), ← HNL.out, hd]
                  exact hc
                have hr : Rd w9 (.slice A9 nl c9) 9 l.reverse.length (rows Chg.cells l.reverse) := by rw [List.length_reverse, ← HNL.out]; exact HR.out
                have rx : Rd w9 (.slice B1 nl b1) 9 l.length (rows Chg.cells l) := by rw [← HNL.out]; exact HRX.out
                obtain ⟨g3, o3, d3, hv3, hc3⟩ := Rd.atC hr (by rw [List.length_reverse, ← HNL.out]; omega)
                obtain ⟨g4, o4, d4, hv4, hc4⟩ := Rd.atC rx (by rw [← HNL.out]; omega)
                obtain ⟨rfl, rfl⟩ : A9 = some ⟨g3, o3, none⟩ ∧ c9 = d3 := by
                  injection hv3 with e1 _ e2
                  exact ⟨e1, e2⟩
                obtain ⟨rfl, rfl⟩ : B1 = some ⟨g4, o4, none⟩ ∧ b1 = d4 := by
                  injection hv4 with e1 _ e2
                  exact ⟨e1, e2⟩
                obtain ⟨p0, p1, p2, p3, p4, p5, p6, p7, p8⟩ := hc3 p c hcr
                obtain ⟨q0, q1, q2, q3, q4, q5, q6, q7, q8⟩ := hc4 d c hc
                have n1 : ((nl : Int) - 1 - (p : Int)).toNat = d := by omega
                have n2 : (0 : Int) ≤ (nl : Int) - 1 - (p : Int) := by omega
                have n3 : (nl : Int) - 1 - (p : Int) < (nl : Int) := by omega
                have hee : c.eqB c = true := (Chg.eqB_iff c c).2 rfl
                have HPL := hide hpl
                clear hpl hd hdl hc hcr hr rx hv3 hv4 hc3 hc4 hp
                go_wp2
                go_region
                go_wp2
                go_roundw
                case rel => exact ⟨p + 1, q + 1, HPL.out, by go_num, rfl⟩
                case measure => have := HPL.out; simp [intOf]; omega
              · have z3 : decide (p < nl) = false := by simpa using hpl
                have z4 : decide ((p : Int) < (nl : Int)) = false := by simp; omega
                have H10 := hide (H9.out.drewN q).dropC
                clear hpl hp HR HRX H9
                have hS3 := HC.out.sm.sz.small (by omega)
                have hlen2 := HC.out.sm.gd.lim1
                go_wp2_with fail
                refine (chain_any H10.out hlen2).mono ?_
                rintro e w11 ⟨rfl, rfl⟩
                rw [show (s2.undo ag).chain = .returned (.tuple #[.int .i64 (j : Int), .bool true]) by unfold Lg.chain; rw [HCC.out, if_neg (by omega), decide_eq_true (by omega)]]
                go_wp2_with fail
                refine (all_any H10.out hlen2 hS3).mono ?_
                rintro e w12 ⟨va, ha, rfl, hma, h12, oka⟩
                have ra := h12.own.rdG (v := va) (hs := ha) (fun y hy => by simp only [List.mem_append]; exact .inr (.inl hy)) oka
                have rb := h12.own.rdG (v := .slice (some ⟨gw, ow, none⟩) m cw) (hs := hs) (fun y hy => by simp only [List.mem_append]; exact .inr (.inr (.inl hy))) HOKH.out
                have hga : grps ha = grps hs := hma.trans HC.out.sm.all
                have hle : ha.length = hs.length := by have := congrArg List.length hga; simpa [grps] using this
                have hsame := same19_any ha hs va (.slice (some ⟨gw, ow, none⟩) m cw) w12 ra rb (by rw [hle, ← HM.out]; omega) (by rw [← HM.out]; omega) (fun x hx => HLEN.out x.2 (by rw [← hga]; exact List.mem_map_of_mem hx)) (fun x hx => HLEN.out x.2 (List.mem_map_of_mem hx))
                rw [isB_true hga] at hsame
                have HSAME := hide hsame
                have H12 := hide (h12.sub (R' := gosHeap (.slice (some ⟨gw, ow, none⟩) m cw) hs ++ []) (List.sublist_append_right _ _))
                clear ra rb hga hle hsame h12 oka hma H10
                go_wp2_with fail
                refine (Calls.mono HSAME.out) ?_
                rintro e w13 ⟨rfl, q2, rfl⟩
                have H13 := hide (H12.out.drewN q2)
                clear H12 HSAME
                go_wp2_with fail
                go_roundw
                case rel => exact ⟨(j : Int) - 1, ⟨lb, gv9, ov9, gs9⟩, s2.undo ag, by omega, by omega, by go_num, rfl, H13.out, HC.out⟩
                case measure => simp [intOf]
end Go.Proofs.YtghcmakhfdnimaaDoor
