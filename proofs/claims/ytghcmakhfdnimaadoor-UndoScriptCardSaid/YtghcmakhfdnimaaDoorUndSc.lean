/- UndoScript returns true for every limit and every list of acts. No condition but those written. -/
import Derived.Test.YtghcmakhfdnimaaDoorRefK
import Derived.Test.YtghcmakhfdnimaaDoorUndAp
namespace Go.Proofs.YtghcmakhfdnimaaDoor
open Go.RowKit
attribute [local go_sem 2000] neq_chg

/-- What is known of a state behind n acts. -/
structure Fits (s : Lg) (n : Nat) : Prop where
  good : Good s
  sized : Sized s n
  le : n ≤ 100
theorem Fits.small {s : Lg} {n : Nat} (h : Fits s n) : Small s := h.sized.small (by have := h.le; omega)
theorem Fits.many {s : Lg} {n : Nat} (h : Fits s n) : s.all.length ≤ 1000000 := by have := h.sized.many; have := h.le; omega
theorem Fits.lens {s : Lg} {n : Nat} (h : Fits s n) : ∀ g ∈ s.all, g.length ≤ 1000000 := fun g hg => by have := h.sized.len g hg; have := h.le; omega
theorem Fits.act {s : Lg} {n : Nat} (h : Fits s n) {a : Acn} (ha : a.c.tx.size ≤ 200) (hn : n < 100) : Fits (s.act a) (n + 1) := ⟨h.good.act a, h.sized.act h.good ha, hn⟩
/-- Two lists of groups that both are what a log holds are the same. -/
theorem same_of {W w : World} {L : Heap} {va vb : Value} {ha hb : List (Value × List Chg)} {l : List (List Chg)} (h : Own W w L) (s1 : ∀ y, y ∈ gosHeap va ha → y ∈ L) (s2 : ∀ y, y ∈ gosHeap vb hb → y ∈ L) (oka : GosOk va ha) (okb : GosOk vb hb)
    (ma : ha.map (fun x : Value × List Chg => x.2) = l) (mb : hb.map (fun x : Value × List Chg => x.2) = l) (hl : l.length ≤ 1000000) (hle : ∀ g ∈ l, g.length ≤ 1000000) :
    Calls Tryd.prog 22 #[va, vb] w fun e w' => e = .returned (.bool true) ∧ ∃ q, w' = w.drewN q := by
  have la : ha.length = l.length := by rw [← ma]; simp
  have lb : hb.length = l.length := by rw [← mb]; simp
  have := same19_any ha hb va vb w (h.rdG s1 oka) (h.rdG s2 okb) (by omega) (by omega) (fun x hx => hle x.2 (by rw [← ma]; exact List.mem_map_of_mem hx)) (fun x hx => hle x.2 (by rw [← mb]; exact List.mem_map_of_mem hx))
  rwa [isB_true (show grps ha = grps hb from ma.trans mb.symm)] at this
theorem gos_form {W w : World} {L : Heap} {v : Value} {hs : List (Value × List Chg)} {l : List (List Chg)} (h : Own W w L) (s1 : ∀ y, y ∈ gosHeap v hs → y ∈ L) (ok : GosOk v hs) (m : hs.map (fun x : Value × List Chg => x.2) = l) : ∃ A d, v = .slice A l.length d := by
  obtain ⟨A, d, hv, _⟩ := (h.gosSl s1 ok).form
  have : hs.length = l.length := by rw [← m]; simp
  rw [this] at hv
  exact ⟨A, d, hv⟩
theorem Both.drewS {W w w' : World} {b1 b2 : Lb} {s t : Lg} {R : Heap} (h : Both W w b1 b2 s t R) (hq : ∃ q, w' = w.drewN q) : Both W w' b1 b2 s t R := by
  obtain ⟨q, rfl⟩ := hq
  exact h.drewN q
set_option maxRecDepth 100000 in
set_option maxHeartbeats 8000000 in
theorem script_walk (lim : Int) (l : List Acn) (v : Value) (W : World) (hT : Rules W) (hr : Rd W v 11 l.length (rows Acn.cells l)) (hm : l.length ≤ maxLen) :
    Calls Tryd.prog 7 #[.int .i64 lim, v] W fun e w' => e = .returned (.bool true) ∧ Below W.heap.size W w' := by
  have HT := hide hT
  have HR := hide hr
  have HM := hide hm
  clear hT hr hm
  go_enter Tryd.func7, Tryd.ntmps7
  go_wp2_with fail
  refine (Calls.mono (lives_any _ HT.out)) ?_
  rintro e w1 ⟨rfl, b1⟩
  have HB1 := hide b1
  clear b1
  go_wp2_with fail
  refine (Calls.mono (light_any l v w1 (HR.out.belowR HB1.out) HM.out)) ?_
  rintro e w2 ⟨rfl, rfl⟩
  cases hlight : lightB l with
  | false =>
    go_wp2
    go_ret
    exact ⟨rfl, HB1.out⟩
  | true =>
    have HLI := hide (lightB_iff.1 hlight)
    clear hlight
    obtain ⟨A, cp, rfl, _⟩ := id HR.out
    obtain ⟨N, hN⟩ : ∃ N, N = l.length := ⟨_, rfl⟩
    rw [← hN] at HR ⊢
    have hN60 : N ≤ 60 := by rw [hN]; exact HLI.out.2
    have HNN := hide hN
    clear hN HM
    by_cases hlim : lim < 1 ∨ 1048576 < lim
    · have HL := hide hlim
      clear hlim
      go_wp2_with fail
      refine (Calls.mono (new_bad lim HL.out)) ?_
      rintro e w2 ⟨rfl, rfl⟩
      go_wp2_with fail
      refine (Calls.mono (rnew_bad lim HL.out)) ?_
      rintro e w2 ⟨rfl, rfl⟩
      go_wp2
      go_loop [9] (fun i => i = .int .i64 0) (fun _ => 0)
      case atStart => rfl
      case round =>
        subst hrel
        rcases Nat.eq_zero_or_pos N with h0 | h0
        · subst h0
          go_wp2
          go_ret
          exact ⟨rfl, HB1.out⟩
        · have y1 : decide (0 < N) = true := by simpa using h0
          have y2 : decide ((0 : Int) < (N : Int)) = true := by simp; omega
          go_wp2
          go_ret
          exact ⟨rfl, HB1.out⟩
    · have HL := hide (show 1 ≤ lim ∧ lim ≤ 1048576 by omega)
      clear hlim
      go_wp2_with fail
      refine (Calls.mono (new_ok (W := W) (L := []) ⟨HB1.out, by simp [Heap.blocks], fun x hx => by cases hx⟩ lim HL.out.1 HL.out.2)) ?_
      rintro e w2 ⟨rfl, h2⟩
      obtain ⟨lx, hlx⟩ : ∃ lx, lx = w1.heap.size := ⟨_, rfl⟩
      rw [← hlx] at h2 ⊢
      have H2 := hide h2
      clear h2 hlx
      go_wp2_with fail
      refine (Calls.mono (rnew_ok (W := W) H2.out.own lim HL.out.1 HL.out.2)) ?_
      rintro e w3 ⟨rfl, h3⟩
      obtain ⟨ly, hly⟩ : ∃ ly, ly = w2.heap.size := ⟨_, rfl⟩
      rw [← hly] at h3 ⊢
      have H3 := hide (show Both W w3 ⟨lx, .slice none 0 0, .slice none 0 0, []⟩ ⟨ly, .slice none 0 0, .slice none 0 0, []⟩ (Lg.new lim) (Lg.new lim) [] from Both.ofRef (L := []) (R := []) h3 (new_lbok _ _))
      clear h3 hly
      go_wp2
      go_loopw [9] (fun i wr => ∃ (k : Nat) (b1 b2 : Lb) (s : Lg), k ≤ N ∧ i = .int .i64 (k : Int) ∧ b1.lb = lx ∧ b2.lb = ly ∧ Both W wr b1 b2 s s [] ∧ Fits s k) (fun i _ => N - (intOf i).toNat)
      case atStart => exact ⟨0, _, _, _, Nat.zero_le _, rfl, rfl, rfl, H3.out, Good.new HL.out.1 HL.out.2, Sized.new _, by omega⟩
      case round =>
        clear H2 H3
        obtain ⟨k, ⟨lb1, gv1, ov1, gs1⟩, ⟨lb2, gv2, ov2, gs2⟩, s, hk, rfl, e1, e2, h, hf⟩ := hrel
        obtain rfl : lx = lb1 := e1.symm
        obtain rfl : ly = lb2 := e2.symm
        have HF := hide hf
        have H0 := hide h
        clear h hf
        by_cases hlt : k < N
        · have y1 : decide (k < N) = true := by simpa using hlt
          have y2 : decide ((k : Int) < (N : Int)) = true := by simp; omega
          obtain ⟨g, off, rfl⟩ := HR.out.some_ (by omega)
          obtain ⟨a, ha⟩ : ∃ a, l[k]? = some a := ⟨_, List.getElem?_eq_getElem (by rw [← HNN.out]; exact hlt)⟩
          have HACT := hide (fun (w' : World) (hb : Below W.heap.size W w') => Rd.atA (HR.out.belowR hb) ha)
          have HTX := hide (HLI.out.1 a (List.mem_of_getElem? ha))
          obtain ⟨q0, q1, q2, q3, q4, q5, q6, q7, q8, q9, q10⟩ := HACT.out _ H0.out.own.bel
          have HLT := hide hlt
          clear ha hlt hk
          go_wp2_with fail
          refine (Calls.mono (do_any H0.out.log HF.out.good HF.out.small HT.out HF.out.many a (by have := HTX.out; omega))) ?_
          rintro e w5 ⟨⟨lb5, gv5, ov5, gs5⟩, vx, hb5, rfl, h5, okx⟩
          obtain rfl : lx = lb5 := hb5.symm
          have H5 := hide (show Both W w5 ⟨lx, gv5, ov5, gs5⟩ ⟨ly, gv2, ov2, gs2⟩ (s.act a) s (chgRow vx (s.actOut a) ++ []) from Both.ofLog h5 H0.out.ok2)
          have OKX := hide okx
          clear h5 okx H0 q0 q1 q2 q3 q4 q5 q6 q7 q8 q9 q10
          obtain ⟨q0, q1, q2, q3, q4, q5, q6, q7, q8, q9, q10⟩ := HACT.out _ H5.out.own.bel
          go_wp2_with fail
          refine (Calls.mono (does_any H5.out.ref HF.out.good HF.out.small HF.out.many a (by have := HTX.out; omega))) ?_
          rintro e w6 ⟨⟨lb6, gv6, ov6, gs6⟩, vy, hb6, rfl, h6, oky⟩
          obtain rfl : ly = lb6 := hb6.symm
          have H6 := hide (show Both W w6 ⟨lx, gv5, ov5, gs5⟩ ⟨ly, gv6, ov6, gs6⟩ (s.act a) (s.act a) (chgRow vy (s.actOut a) ++ (chgRow vx (s.actOut a) ++ [])) from Both.ofRef h6 H5.out.ok1)
          have OKY := hide oky
          have HFA := hide (HF.out.act HTX.out (by have := HLT.out; omega))
          have HOL := hide (actOut_len HF.out.sized HF.out.good a)
          obtain ⟨t, ht⟩ : ∃ t, t = s.act a := ⟨_, rfl⟩
          obtain ⟨er, her⟩ : ∃ er, er = s.actErr a := ⟨_, rfl⟩
          rw [← ht] at H6 HFA
          rw [← her]
          clear h6 oky H5 her ht q0 q1 q2 q3 q4 q5 q6 q7 q8 q9 q10
          obtain ⟨c1, c2, hch⟩ : ∃ c1 c2, t.chain = .returned (.tuple #[.int .i64 c1, .bool c2]) := ⟨_, _, rfl⟩
          have HCA := hide (chain_any H6.out.log HFA.out.good.lim1)
          have HCB := hide (rchain_any H6.out.ref)
          rw [hch] at HCA HCB
          clear hch
          go_wp2_with fail
          refine (Calls.mono (HCA.out)) ?_
          rintro e w7 ⟨rfl, rfl⟩
          go_wp2_with fail
          refine (Calls.mono (HCB.out)) ?_
          rintro e w7 ⟨rfl, rfl⟩
          have HSAME := hide (show Calls Tryd.prog 36 #[vx, vy] w6.drew fun e w' => e = .returned (.bool true) ∧ ∃ q, w' = w6.drew.drewN q from by
            have hx : Rd w6.drew vx 9 (s.actOut a).length (rows Chg.cells (s.actOut a)) := (H6.out.drew.own.slOf (fun x hx => by simp only [List.mem_append]; exact .inr (.inr (.inr (.inl hx)))) (by rw [rows_len chg_len]) OKX.out).rd
            have hy : Rd w6.drew vy 9 (s.actOut a).length (rows Chg.cells (s.actOut a)) := (H6.out.drew.own.slOf (fun x hx => by simp only [List.mem_append]; exact .inr (.inr (.inl hx))) (by rw [rows_len chg_len]) OKY.out).rd
            have := same_chgs (s.actOut a) (s.actOut a) vx vy w6.drew hx hy (by have := HOL.out; have := HLT.out; omega) (by have := HOL.out; have := HLT.out; omega)
            rwa [isB_true rfl] at this)
          have H7 := hide (show Both W w6.drew ⟨lx, gv5, ov5, gs5⟩ ⟨ly, gv6, ov6, gs6⟩ t t [] from H6.out.drew.none)
          clear HCA HCB H6 OKX OKY HOL
          have hk0 : (0 : Int) ≤ (k : Int) := by omega
          have hk1 : (k : Int) < (N : Int) := by have := HLT.out; omega
          have hc3 : (t.cost != t.cost) = false := by simp
          have hc4 : (er != er) = false := by simp
          go_wp2_with fail
          go_region_held3 (fun w' => w'.cell? ⟨g, off + k * 11 + 1, none⟩ = some (.int .i64 a.c.k) ∧ w'.cell? ⟨g, off + k * 11 + 2, none⟩ = some (.int .i64 a.c.a) ∧ w'.cell? ⟨g, off + k * 11 + 3, none⟩ = some (.int .i64 a.c.t) ∧ w'.cell? ⟨g, off + k * 11 + 4, none⟩ = some (.int .i64 a.c.id) ∧ w'.cell? ⟨g, off + k * 11 + 5, none⟩ = some (.int .i64 a.c.nm) ∧ w'.cell? ⟨g, off + k * 11 + 6, none⟩ = some (.string a.c.tx) ∧ w'.cell? ⟨g, off + k * 11 + 7, none⟩ = some (.int .i64 a.c.vk) ∧ w'.cell? ⟨g, off + k * 11 + 8, none⟩ = some (.int .i64 a.c.vn) ∧ w'.cell? ⟨g, off + k * 11 + 9, none⟩ = some (.bool a.c.had))
            (first | exact (HACT.out _ H15.out.own.bel).nine | exact (HACT.out _ H14.out.own.bel).nine | exact (HACT.out _ H13.out.own.bel).nine | exact (HACT.out _ H12.out.own.bel).nine | exact (HACT.out _ H11.out.own.bel).nine | exact (HACT.out _ H10.out.own.bel).nine | exact (HACT.out _ H9.out.own.bel).nine | exact (HACT.out _ H8.out.own.bel).nine | exact (HACT.out _ H7.out.own.bel).nine)
            ((first
              | (go_at_call 36; refine (Calls.mono HSAME.out) ?_; rintro e w8 ⟨rfl, hq8⟩; have H8 := hide (H7.out.drewS hq8); clear hq8)
              | (go_at_call 26; refine (cost_any H8.out.log HFA.out.good.lim1).mono ?_; rintro e w9 ⟨rfl, rfl⟩)
              | (go_at_call 37; refine (rcost_any H8.out.ref ⟨(now_le_cost HFA.out.good).1, (now_le_cost HFA.out.good).2, HFA.out.small.cost⟩).mono ?_; rintro e w9 ⟨rfl, hq9⟩; have H9 := hide (H8.out.drewS hq9); clear hq9)
              | (go_at_call 24; refine (many_any H9.out.log HFA.out.good.lim1 HFA.out.small.many).mono ?_; rintro e w10 ⟨rfl, rfl⟩)
              | (go_at_call 38; refine (rall_any H11.out.ref HFA.out.small).mono ?_; rintro e w12 ⟨vb, hb, rfl, hmb, h12, okb⟩; have H12 := hide (Both.ofRef h12 H11.out.ok1); have HMB := hide hmb; have OKB := hide okb; clear hmb okb h12)
              | (go_at_call 38; refine (rall_any H9.out.ref HFA.out.small).mono ?_; rintro e w10 ⟨v10, hs10, rfl, hm10, h10, ok10⟩; have H10 := hide (Both.ofRef h10 H9.out.ok1).none; obtain ⟨A10, d10, rfl⟩ := gos_form h10.own (fun y hy => by simp only [List.mem_append]; exact .inr (.inl hy)) ok10 hm10; clear hm10 ok10 h10)
              | (go_at_call 23; refine (all_any H10.out.log HFA.out.good.lim1 HFA.out.small).mono ?_; rintro e w11 ⟨va, ha, rfl, hma, h11, oka⟩; have H11 := hide (Both.ofLog h11 H10.out.ok2); have HMA := hide hma; have OKA := hide oka; clear hma oka h11)
              | (go_at_call 22; refine (same_of H12.out.own (fun y hy => by simp only [List.mem_append]; exact .inr (.inr (.inr (.inl hy)))) (fun y hy => by simp only [List.mem_append]; exact .inr (.inr (.inl hy))) OKA.out OKB.out HMA.out HMB.out HFA.out.many HFA.out.lens).mono ?_; rintro e w13 ⟨rfl, hq13⟩; have H13 := hide (H12.out.drewS hq13).none; clear hq13)
              | (go_at_call 28; refine (check_any a.c _ (HT.out.below H13.out.own.bel) (by have := HTX.out; omega)).mono ?_; rintro e w14 ⟨rfl, hb14⟩; have H14 := hide (H13.out.below hb14); clear hb14)
              | (go_at_call 39; refine (rcheck_any a.c _ (by have := HTX.out; omega)).mono ?_; rintro e w15 ⟨rfl, hb15⟩; have H15 := hide (H14.out.below hb15); clear hb15)))
          all_goals
            go_wp2
            go_roundw
            case rel => exact ⟨k + 1, ⟨lx, gv5, ov5, gs5⟩, ⟨ly, gv6, ov6, gs6⟩, t, HLT.out, by go_num, rfl, rfl, H15.out, HFA.out⟩
            case measure => have := HLT.out; simp [intOf]; omega
        · have y1 : decide (k < N) = false := by simpa using hlt
          have y2 : decide ((k : Int) < (N : Int)) = false := by simp; omega
          clear hlt
          go_wp2_with fail
          refine (copy_any H0.out.log HF.out.good.lim1 HF.out.small).mono ?_
          rintro e w5 ⟨⟨ob, gv5, ov5, gs5⟩, rfl, h5, ok5⟩
          have H5 := hide (show Both W w5 ⟨ob, gv5, ov5, gs5⟩ ⟨ly, gv2, ov2, gs2⟩ s s [] from by
            exact ⟨h5.own.right, ok5, H0.out.ok2⟩)
          clear h5 ok5 H0
          go_wp2_with fail
          refine (Calls.mono (all_any H5.out.log HF.out.good.lim1 HF.out.small)) ?_
          rintro e w11 ⟨va, ha, rfl, hma, h11, oka⟩
          have H11 := hide (Both.ofLog h11 H5.out.ok2)
          have HMA := hide hma
          have OKA := hide oka
          clear hma oka h11
          go_wp2_with fail
          refine (Calls.mono (rall_any H11.out.ref HF.out.small)) ?_
          rintro e w12 ⟨vb, hb, rfl, hmb, h12, okb⟩
          have H12 := hide (Both.ofRef h12 H11.out.ok1)
          have HMB := hide hmb
          have OKB := hide okb
          clear hmb okb h12
          go_wp2_with fail
          refine (Calls.mono (same_of H12.out.own (fun y hy => by simp only [List.mem_append]; exact .inr (.inr (.inr (.inl hy)))) (fun y hy => by simp only [List.mem_append]; exact .inr (.inr (.inl hy))) OKA.out OKB.out HMA.out HMB.out HF.out.many HF.out.lens)) ?_
          rintro e w13 ⟨rfl, q13, rfl⟩
          have H13 := hide (H12.out.drewN q13)
          clear H12 H11 H5
          go_wp2
          go_ret
          exact ⟨rfl, H13.out.own.bel⟩
end Go.Proofs.YtghcmakhfdnimaaDoor
