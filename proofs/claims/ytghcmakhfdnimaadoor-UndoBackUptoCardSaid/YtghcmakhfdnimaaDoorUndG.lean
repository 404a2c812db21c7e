/- The walk of the closing of a group. No condition but those written. -/
import Derived.Test.YtghcmakhfdnimaaDoorUndF
namespace Go.Proofs.YtghcmakhfdnimaaDoor
open Go.RowKit

def sumG (G : List (List Chg)) : Nat := (G.map total).sum
theorem sumG_nil : sumG [] = 0 := rfl
theorem sumG_cons (g : List Chg) (G : List (List Chg)) : sumG (g :: G) = total g + sumG G := by simp [sumG]
theorem sumG_append (G H : List (List Chg)) : sumG (G ++ H) = sumG G + sumG H := by simp [sumG]
/-- What always holds of a log. -/
structure Good (s : Lg) : Prop where
  lim1 : 1 ≤ s.lim
  lim2 : s.lim ≤ 1048576
  cost : s.cost = ((sumG s.G + total s.O : Nat) : Int)
  now : s.now = ((total s.O : Nat) : Int)
  ch1 : -1 ≤ s.ch
  ch2 : s.ch ≤ (s.G.length : Int)
/-- How great a log may be for these walks. -/
structure Small (s : Lg) : Prop where
  cost : s.cost ≤ 1099511627776
  many : s.G.length ≤ 1000000
  len : ∀ g ∈ s.G, g.length ≤ 1000000
  lenO : s.O.length ≤ 1000000
  txt : ∀ g ∈ s.G, ∀ c ∈ g, c.tx.size ≤ 1099511627776
  txtO : ∀ c ∈ s.O, c.tx.size ≤ 1099511627776
theorem total_take_le (l : List Chg) (k : Nat) : total (l.take k) ≤ total l := by
  conv => rhs; rw [← List.take_append_drop k l, total_append]
  omega
theorem total_take_succ {l : List Chg} {k : Nat} {c : Chg} (h : l[k]? = some c) : total (l.take (k + 1)) = total (l.take k) + c.price := by
  rw [List.take_add_one, h, total_append]
  simp [total]
theorem shut_all (s : Lg) : s.shut.all = s.all := by
  unfold Lg.shut
  split
  · rfl
  · rename_i h
    unfold Lg.all
    simp [h]
theorem shut_G (s : Lg) : s.shut.G = s.all := by
  unfold Lg.shut Lg.all
  split
  · rfl
  · rfl
theorem shut_O (s : Lg) : s.shut.O = [] := by
  unfold Lg.shut
  split
  · assumption
  · rfl

theorem trim_stop {lim : Int} {G : List (List Chg)} {cost ch : Int} (h : cost ≤ lim ∨ G.length ≤ 1) : trim lim G cost ch = (G, cost, ch) := by
  rcases G with _ | ⟨g, _ | ⟨g2, r⟩⟩
  · rfl
  · rfl
  · rcases h with h | h
    · rw [trim, if_neg (by omega)]
    · simp at h
theorem trim_step {lim : Int} {g g2 : List Chg} {r : List (List Chg)} {cost ch : Int} (h : lim < cost) : trim lim (g :: g2 :: r) cost ch = trim lim (g2 :: r) (cost - total g) (if 0 < ch then ch - 1 else ch) := by
  rw [trim, if_pos h]
section
variable {W w w' : World} {b : Lb} {s : Lg} {R : Heap}
theorem LogAt.gtr (h : LogAt W w b s R) {x : Value × List Chg} (hx : x ∈ b.gs) : x.2 ∈ s.G := by rw [h.grp]; exact List.mem_map_of_mem hx
theorem oneSl (A : Option Addr) (n c : Nat) : (Value.slice A n c).oneCell' = true := rfl
theorem zero_chg (w : World) : (zeroValue 51).run Tryd.prog w = .ok (.agg #[.int .i64 0, .int .i64 0, .int .i64 0, .int .i64 0, .int .i64 0, .string ⟨#[]⟩, .int .i64 0, .int .i64 0, .bool false]) w := by kernel_rfl
theorem LogAt.rules (h : LogAt W w b s R) (hT : Rules W) : Rules w := hT.below h.own.bel
set_option maxRecDepth 100000 in
set_option maxHeartbeats 4000000 in
theorem close_any (h : LogAt W w b s R) (hg : Good s) (hS : Small s) (hT : Rules W) : Calls Tryd.prog 47 #[.pointer (some ⟨b.lb, 0, none⟩)] w
    fun e w' => e = .returned (.tuple #[]) ∧ ∃ b', b'.lb = b.lb ∧ LogAt W w' b' s.close R := by
  have H := hide h
  have HG := hide hg
  have HSM := hide hS
  have HT := hide hT
  obtain ⟨A1, d1, hv1, _⟩ := h.slO.form
  obtain ⟨nO, hnO⟩ : ∃ nO, nO = s.O.length := ⟨_, rfl⟩
  rw [← hnO] at hv1
  have c2 := h.c2
  rw [hv1] at c2
  have hnn : nO ≤ 1000000 := by rw [hnO]; exact hS.lenO
  have HV1 := hide hv1
  have HNO := hide hnO
  clear h hg hS hT hv1 hnO
  go_enter Tryd.func47, Tryd.ntmps47
  go_upto_if 9 with fail
  go_cut [] (fun wx => ∃ b1, b1.lb = b.lb ∧ LogAt W wx b1 s.shut R)
  case first =>
    by_cases hO : nO = 0
    · have HSH := hide (show s.shut = s by unfold Lg.shut; rw [if_pos (List.eq_nil_of_length_eq_zero (HNO.out.symm.trans hO))])
      subst hO
      go_wp2_with fail
      go_meet
      exact ⟨b, rfl, by rw [HSH.out]; exact H.out⟩
    · have hpos : 0 < nO := by omega
      have hz1 : decide ((0 : Int) < (nO : Int)) = true := by simp; omega
      have hz2 : decide (0 < nO) = true := by simpa using hpos
      have HSH := hide (show s.shut = { s with G := s.G ++ [s.O], O := [], now := 0 } by unfold Lg.shut; rw [if_neg (fun e => hO (by rw [HNO.out, e]; rfl))])
      clear hO
      obtain ⟨i0, hi, hj0, hj1, hj2⟩ := info_parts info_chgs
      have HI := hide hi
      have HZ := hide hj0
      have HZ1 := hide hj1
      have HZ2 := hide hj2
      clear hi hj0 hj1 hj2
      have hbx := H.out.box 40 #[.slice A1 nO d1]
      have hbx2 := (H.out.drew).skip (.cells #[.slice A1 nO d1] 40)
      obtain ⟨A5, d5, hv5, _⟩ := H.out.slG.form
      have g1 : w.cell? ⟨b.lb, 1, none⟩ = some (.slice A5 b.gs.length d5) := H.out.c1.trans (congrArg some hv5)
      have g2 : (w.alloc (.cells #[.slice A1 nO d1] 40)).cell? ⟨b.lb, 1, none⟩ = some (.slice A5 b.gs.length d5) := hbx.c1.trans (congrArg some hv5)
      have HSL := hide (show Sl (w.drew.alloc (.cells #[.slice A1 nO d1] 40)) 40 1 (.slice A5 b.gs.length d5) b.gs.length (b.gs.map (·.1)) by rw [← hv5]; exact hbx2.slG)
      have HX := hide hbx2
      have HV5 := hide hv5
      have HB5 := hide (show b.gs.length ≤ 1000000 by rw [← H.out.len]; exact HSM.out.many)
      clear hbx hbx2 hv5
      go_wp2_with fail
      go_region_law
        ((refine step_append_sl rfl (.tmp 16) (.tmp 21) 47 rfl 40 i0 _ 1 24 Tryd.underlying47 HI.out HZ.out HZ1.out HZ2.out rfl _ b.gs.length (b.gs.map fun x : Value × List Chg => x.1) rfl HSL.out _ rfl 1 _ (rd_one w.drew 40 (.slice A1 nO d1)) (by intro u hu; simp at hu; subst hu; rfl) (by have := HB5.out; unfold maxLen; omega) (by have := HB5.out; omega) ?_; intro v' w6 hs6 ho6 hv6; rw [← HV5.out] at ho6 hv6; rw [← HV1.out] at hs6; have hadd := HX.out.shutAt hs6 ho6 hv6; obtain ⟨A6, d6, rfl, _⟩ := hs6.form; have x1 : w6.cell? ⟨b.lb, 1, none⟩ = some b.gv := hadd.1.cell 1; have x2 : w6.cell? ⟨b.lb, 2, none⟩ = some b.ov := hadd.1.cell 2; have x5 : w6.cell? ⟨b.lb, 5, none⟩ = some (.int .i64 s.now) := hadd.1.cell 5; have f1 : w6.frozen? ⟨b.lb, 1, none⟩ = false := hadd.1.frozen 1; have f2 : w6.frozen? ⟨b.lb, 2, none⟩ = false := hadd.1.frozen 2; have f5 : w6.frozen? ⟨b.lb, 5, none⟩ = false := hadd.1.frozen 5; have HN6 := hide hadd.2; clear hs6 ho6 hv6 hadd))
      all_goals (go_wp2_with fail; go_meet; exact ⟨⟨b.lb, _, .slice none 0 0, b.gs ++ [(b.ov, s.O)]⟩, rfl, by rw [HSH.out]; exact HN6.out⟩)
  case rest =>
    obtain ⟨b1, hb1, h1⟩ := hcut
    obtain ⟨s1, hs1⟩ : ∃ s1, s1 = s.shut := ⟨_, rfl⟩
    rw [← hs1] at h1
    have HS1 := hide hs1
    have HL := hide (show s1.lim = s.lim by rw [hs1]; unfold Lg.shut; split <;> rfl)
    have HF := hide (show s1.cost = ((sumG s1.G : Nat) : Int) ∧ -1 ≤ s1.ch ∧ s1.ch ≤ 10000000 ∧ s1.G.length ≤ 1000001 ∧ s1.cost ≤ 1099511627776 ∧ (∀ g ∈ s1.G, g.length ≤ 1000000 ∧ ∀ c ∈ g, c.tx.size ≤ 1099511627776) from by
      have g := HG.out
      have m := HSM.out
      rw [hs1, shut_G]
      have e1 : s.shut.cost = s.cost := by unfold Lg.shut; split <;> rfl
      have e2 : s.shut.ch = s.ch := by unfold Lg.shut; split <;> rfl
      rw [e1, e2]
      refine ⟨?_, g.ch1, by have := g.ch2; have := m.many; omega, ?_, m.cost, ?_⟩
      · rw [g.cost]
        unfold Lg.all
        split
        · rename_i e
          rw [e, total_nil, Nat.add_zero]
        · rw [sumG_append, sumG_cons, sumG_nil, Nat.add_zero]
      · have := m.many
        unfold Lg.all
        split
        · omega
        · simp; omega
      · intro x hx
        unfold Lg.all at hx
        split at hx
        · exact ⟨m.len x hx, m.txt x hx⟩
        · rcases List.mem_append.1 hx with hx | hx
          · exact ⟨m.len x hx, m.txt x hx⟩
          · simp at hx
            subst hx
            exact ⟨m.lenO, m.txtO⟩)
    have H1 := hide (And.intro hb1 h1)
    clear hb1 h1 hs1 HNO HV1 hnn
    go_wp2
    go_loopw [] (fun wr => ∃ (b' : Lb) (G : List (List Chg)) (cost ch : Int), b'.lb = b.lb ∧ LogAt W wr b' { s1 with G := G, cost := cost, ch := ch } R ∧ trim s1.lim G cost ch = trim s1.lim s1.G s1.cost s1.ch ∧ cost = ((sumG G : Nat) : Int) ∧ (∀ g ∈ G, g ∈ s1.G) ∧ G.length ≤ s1.G.length ∧ -1 ≤ ch ∧ ch ≤ 10000000 ∧ cost ≤ 1099511627776) (fun wr => match wr.cell? ⟨b.lb, 1, none⟩ with | some (.slice _ n _) => n | _ => 0)
    case atStart => exact ⟨b1, s1.G, s1.cost, s1.ch, H1.out.1, H1.out.2, rfl, HF.out.1, fun _ h => h, Nat.le_refl _, HF.out.2.1, HF.out.2.2.1, HF.out.2.2.2.2.1⟩
    case round =>
      obtain ⟨b2, G, cost, ch, hb2, h2, htr, hco, hsub, hlen, hch1, hch2, hcost⟩ := hrel
      obtain ⟨lb2, gv2, ov2, gs2⟩ := b2
      obtain rfl : lb2 = b.lb := hb2
      have hgl : G.length = gs2.length := h2.len
      have c0 : wr.cell? ⟨b.lb, 0, none⟩ = some (.int .i64 s1.lim) := h2.c0
      have c4 : wr.cell? ⟨b.lb, 4, none⟩ = some (.int .i64 cost) := h2.c4
      have hlim1 : 1 ≤ s1.lim ∧ s1.lim ≤ 1048576 := by rw [HL.out]; exact ⟨HG.out.lim1, HG.out.lim2⟩
      have HCO := hide hco
      have HTR := hide htr
      have HSUB := hide hsub
      have HLEN := hide (And.intro hlen hgl)
      have HLIM := hide hlim1
      have hc0 : 0 ≤ cost := by omega
      clear hco htr hsub hlim1
      by_cases hover : s1.lim < cost
      · have z1 : decide (s1.lim < cost) = true := by simpa using hover
        rcases G with _ | ⟨g, _ | ⟨g2, r⟩⟩
        · obtain ⟨A9, d9, hv9, _⟩ := h2.slG.form
          have hl0 : gs2.length = 0 := hgl.symm
          have c1 : wr.cell? ⟨b.lb, 1, none⟩ = some (.slice A9 0 d9) := h2.c1.trans (congrArg some (by rw [← hl0]; exact hv9))
          have HE := hide (show s.close = { s1 with G := [], cost := cost, ch := ch } by unfold Lg.close; rw [← HS1.out]; unfold Lg.trimmed; rw [← HTR.out]; rw [trim_stop (.inr (by simp))])
          have HH := hide h2
          clear h2 hv9 hover hgl hl0 hlen
          go_wp2
          go_quiet (fail)
          go_wp2
          go_end0
          exact ⟨rfl, ⟨b.lb, gv2, ov2, gs2⟩, rfl, by rw [HE.out]; exact HH.out.drewN _⟩
        · obtain ⟨A9, d9, hv9, _⟩ := h2.slG.form
          have hl0 : gs2.length = 1 := hgl.symm
          have c1 : wr.cell? ⟨b.lb, 1, none⟩ = some (.slice A9 1 d9) := h2.c1.trans (congrArg some (by rw [← hl0]; exact hv9))
          have HE := hide (show s.close = { s1 with G := [g], cost := cost, ch := ch } by unfold Lg.close; rw [← HS1.out]; unfold Lg.trimmed; rw [← HTR.out]; rw [trim_stop (.inr (by simp))])
          have HH := hide h2
          clear h2 hv9 hover hgl hl0 hlen
          go_wp2
          go_quiet (fail)
          go_wp2
          go_end0
          exact ⟨rfl, ⟨b.lb, gv2, ov2, gs2⟩, rfl, by rw [HE.out]; exact HH.out.drewN _⟩
        · have HGRP := hide h2.grp
          rcases gs2 with _ | ⟨⟨v0, l0⟩, _ | ⟨x1, rs⟩⟩
          · simp at hgl
          · simp at hgl
          obtain ⟨hg0, hg1⟩ : g = l0 ∧ g2 :: r = (x1 :: rs).map (·.2) := by
            have := HGRP.out
            simp only [List.map_cons, List.cons.injEq] at this
            exact ⟨this.1, by simpa using this.2⟩
          subst hg0
          have hrl : (x1 :: rs).length = r.length + 1 := by have := congrArg List.length hg1; simpa using this.symm
          have HG1 := hide hg1
          obtain ⟨gb, off, cp, hv9, hcp, hcm, hcell, hfz, hgbl⟩ := h2.slG.at_ (by simp)
          obtain rfl : gv2 = .slice (some ⟨gb, off, none⟩) (rs.length + 1 + 1) cp := hv9
          have c1 : wr.cell? ⟨b.lb, 1, none⟩ = some (.slice (some ⟨gb, off, none⟩) (rs.length + 1 + 1) cp) := h2.c1
          have hc9 : wr.cell? ⟨gb, off, none⟩ = some v0 := hcell 0 v0 (by simp)
          have hs0 := h2.slg (x := (v0, g)) (List.mem_cons_self ..)
          obtain ⟨A0, d0, hv0, hd0, hd1⟩ := hs0.form
          obtain ⟨n0, hn0⟩ : ∃ n0, n0 = g.length := ⟨_, rfl⟩
          rw [← hn0] at hv0 hd0
          obtain rfl : v0 = .slice A0 n0 d0 := hv0
          have hn0b : n0 ≤ 1000000 := by rw [hn0]; exact (HF.out.2.2.2.2.2 g (HSUB.out g (List.mem_cons_self ..))).1
          have HN0 := hide hn0
          have HTX := hide ((HF.out.2.2.2.2.2 g (HSUB.out g (List.mem_cons_self ..))).2)
          have HH := hide h2
          have hzr : decide (1 < rs.length + 1 + 1) = true := by simp
          have hzr2 : decide ((1 : Int) < (rs.length : Int) + 1 + 1) = true := by simp; omega
          have hrs : rs.length + 2 ≤ 1000001 := by have q1 := HLEN.out.1; have q2 := HF.out.2.2.2.1; have q3 := HLEN.out.2; simp at q1 q3; omega
          have HTG := hide (show total g ≤ cost from by have := HCO.out; rw [sumG_cons] at this; omega)
          clear h2 hcell hfz hs0 hg1 hrl hn0 hover hgl hlen
          go_wp2
          go_quiet (fail)
          go_wp2
          obtain ⟨wo, hwo⟩ : ∃ wo, wo = wr.drewN nq := ⟨_, rfl⟩
          have HO := hide (show LogAt W wo _ _ R by rw [hwo]; exact HH.out.drewN nq)
          rw [← hwo]
          clear hwo
          go_loopw [53] (fun j w2 => ∃ k : Nat, k ≤ n0 ∧ j = .int .i64 (k : Int) ∧ LogAt W w2 ⟨b.lb, .slice (some ⟨gb, off, none⟩) (rs.length + 1 + 1) cp, ov2, (.slice A0 n0 d0, g) :: x1 :: rs⟩ { s1 with G := g :: g2 :: r, cost := cost - (total (g.take k) : Int), ch := ch } R) (fun j _ => n0 - (intOf j).toNat)
          case atStart => exact ⟨0, Nat.zero_le _, rfl, by simpa [total] using HO.out⟩
          case round =>
            obtain ⟨k, hk, rfl, h3⟩ := hrel
            by_cases hlt : k < n0
            · have y1 : decide (k < n0) = true := by simpa using hlt
              have y2 : decide ((k : Int) < (n0 : Int)) = true := by simp; omega
              obtain ⟨c, hc⟩ : ∃ c, g[k]? = some c := ⟨_, List.getElem?_eq_getElem (by rw [← HN0.out]; exact hlt)⟩
              have hs3 := h3.slg (x := (.slice A0 n0 d0, g)) (List.mem_cons_self ..)
              obtain ⟨g3, o3, c3, hv3, _, _, hg3l, _, hat⟩ := Sl.atC (L := g) hs3 (by rw [← HN0.out]; omega)
              obtain ⟨rfl, rfl⟩ : A0 = some ⟨g3, o3, none⟩ ∧ d0 = c3 := by
                injection hv3 with e1 _ e2
                exact ⟨e1, e2⟩
              obtain ⟨p0, p1, p2, p3, p4, p5, p6, p7, p8⟩ := hat k c hc
              have hbx := h3.box 51 #[.int .i64 c.k, .int .i64 c.a, .int .i64 c.t, .int .i64 c.id, .int .i64 c.nm, .string c.tx, .int .i64 c.vk, .int .i64 c.vn, .bool c.had]
              have HBX := hide hbx
              have HC := hide hc
              have HTS := hide (total_take_succ hc)
              have HTK := hide (total_take_le g (k + 1))
              have HCT := hide (HTX.out c (List.mem_of_getElem? hc))
              clear h3 hs3 hat hv3 hc hbx
              go_upto_region 6 with fail
              have q1 : (0 : Int) ≤ (total (g.take k) : Int) + (c.price : Int) := by omega
              have q2 : (total (g.take k) : Int) + (c.price : Int) ≤ cost := by have h1 := HTS.out; have h2 := HTK.out; have h3 := HTG.out; omega
              have q3 : (0 : Int) ≤ (total (g.take k) : Int) := by omega
              have q4 : (0 : Int) ≤ (c.price : Int) := by omega
              have HEQ := hide (show cost - (total (g.take (k + 1)) : Int) = cost - (total (g.take k) : Int) - (c.price : Int) from by have h1 := HTS.out; omega)
              have HD := hide HBX.out.drew
              have kb := HBX.out.own.blk (g := wr.heap.size) (t := 51) (cs := #[.int .i64 c.k, .int .i64 c.a, .int .i64 c.t, .int .i64 c.id, .int .i64 c.nm, .string c.tx, .int .i64 c.vk, .int .i64 c.vn, .bool c.had]) (by simp)
              have k0 := kb.cell 0
              have k1 := kb.cell 1
              have k2 := kb.cell 2
              have k3 := kb.cell 3
              have k4 := kb.cell 4
              have k5 := kb.cell 5
              have k6 := kb.cell 6
              have k7 := kb.cell 7
              have k8 := kb.cell 8
              have n4 := HBX.out.c4
              clear kb p0 p1 p2 p3 p4 p5 p6 p7 p8
              generalize hTk : (total (g.take k) : Int) = Tk at *
              generalize hPk : (c.price : Int) = Pk at *
              go_region_with (go_at_call 50; refine (price_any c _ (HD.out.rules HT.out).tabs (by have := HCT.out; omega)).mono ?_; rw [hPk]; rintro e w3 ⟨rfl, hb⟩; have h3 := HD.out.below hb; have n4 : w3.cell? ⟨b.lb, 4, none⟩ = some (.int .i64 (cost - Tk)) := h3.c4; have f4 : w3.frozen? ⟨b.lb, 4, none⟩ = false := h3.blk.frozen 4; have H3 := hide h3; clear h3 hb)
              all_goals
                go_wp2
                go_roundw
                case rel => exact ⟨k + 1, by omega, by go_num, by rw [HEQ.out]; exact (H3.out.setCell (i := 4) (u := .int .i64 (cost - Tk - Pk)) (s' := { s1 with G := g :: g2 :: r, cost := cost - Tk - Pk, ch := ch }) rfl rfl rfl).drop⟩
                case measure => simp [intOf]; omega
            · have y1 : decide (k < n0) = false := by simpa using hlt
              have y2 : decide ((k : Int) < (n0 : Int)) = false := by simp; omega
              obtain rfl : k = n0 := by omega
              have HTL := hide (show total (g.take k) = total g by rw [List.take_of_length_le (by rw [HN0.out]; exact Nat.le_refl _)])
              rw [HTL.out] at h3
              obtain ⟨w9, hrun, ho9⟩ := run_clear_sl (P := Tryd.prog) (w := wr) (t := 40) (ty := 0) Tryd.underlying40 (zero_chg wr) rfl (by intro u hu; simp [Value.cells] at hu; rcases hu with rfl | rfl | rfl | rfl <;> rfl) (h3.slg (x := (.slice A0 k d0, g)) (List.mem_cons_self ..))
              have hrun2 : ∀ ty, (Builtin.clear_ #[40] ty #[.slice A0 k d0]).run Tryd.prog wr = .ok (.tuple #[]) w9 := fun _ => hrun
              have m1 : wr.cell? ⟨b.lb, 1, none⟩ = some (.slice (some ⟨gb, off, none⟩) (rs.length + 1 + 1) cp) := h3.c1
              obtain ⟨gb', off', cp', hv9', _, _, hcell', _⟩ := h3.slG.at_ (by simp)
              obtain ⟨rfl, rfl⟩ : gb = gb' ∧ off = off' := by
                injection hv9' with e1 _ e2
                injection e1 with e1
                injection e1 with e3 e4
                exact ⟨e3, e4⟩
              have m2 : wr.cell? ⟨gb, off, none⟩ = some (.slice A0 k d0) := hcell' 0 _ (by simp)
              have hgone := h3.firstGone (v := .slice A0 k d0) (l := g) (r := x1 :: rs) (g := gb) (off := off) (c := cp) rfl rfl ho9 rfl
              have m3 : w9.cell? ⟨b.lb, 1, none⟩ = some (.slice (some ⟨gb, off, none⟩) (rs.length + 1 + 1) cp) := hgone.1.cell 1
              have m4 : w9.frozen? ⟨b.lb, 1, none⟩ = false := hgone.1.frozen 1
              have m5 : w9.cell? ⟨b.lb, 3, none⟩ = some (.int .i64 ch) := hgone.1.cell 3
              have m6 : w9.frozen? ⟨b.lb, 3, none⟩ = false := hgone.1.frozen 3
              have HGO := hide hgone.2
              have hcp1 : 1 < cp := by simp at hcp; omega
              clear hlt hk h3 hrun hcell' hv9' ho9 hgone
              have HQ := hide c1
              have HG2 := hide (show trim s1.lim (g2 :: r) (cost - (total g : Int)) (if 0 < ch then ch - 1 else ch) = trim s1.lim s1.G s1.cost s1.ch by rw [← HTR.out, trim_step (by simpa using z1)])
              have HCO2 := hide (show cost - (total g : Int) = ((sumG (g2 :: r) : Nat) : Int) by have := HCO.out; rw [sumG_cons] at this; omega)
              have HL2 := hide (show (g2 :: r).length ≤ s1.G.length by have := HLEN.out.1; simp at this ⊢; omega)
              clear c1
              by_cases hch : 0 < ch
              · have zc : decide (0 < ch) = true := by simpa using hch
                rw [if_pos hch] at HG2
                have HN := hide (HGO.out.setCell (i := 3) (u := .int .i64 (ch - 1)) (s' := { s1 with G := g2 :: r, cost := cost - (total g : Int), ch := ch - 1 }) rfl rfl rfl)
                have HC1 := hide (show ((w9.setCell ⟨b.lb, 1, none⟩ (.slice (some ⟨gb, off + 1, none⟩) (rs.length + 1) (cp - 1))).setCell ⟨b.lb, 3, none⟩ (.int .i64 (ch - 1))).cell? ⟨b.lb, 1, none⟩ = some (.slice (some ⟨gb, off + 1, none⟩) (rs.length + 1) (cp - 1)) from HN.out.c1)
                go_wp2
                go_roundw
                case rel => exact ⟨⟨b.lb, (.slice (some ⟨gb, off + 1, none⟩) (rs.length + 1) (cp - 1)), ov2, x1 :: rs⟩, g2 :: r, cost - (total g : Int), ch - 1, rfl, HN.out, HG2.out, HCO2.out, fun y hy => HSUB.out y (List.mem_cons_of_mem _ hy), HL2.out, by omega, by omega, by have := HTG.out; omega⟩
                case measure =>
                  rw [HQ.out, HC1.out]
                  exact Nat.lt_succ_self _
              · have zc : decide (0 < ch) = false := by simpa using hch
                rw [if_neg hch] at HG2
                have HC1 := hide (show (w9.setCell ⟨b.lb, 1, none⟩ (.slice (some ⟨gb, off + 1, none⟩) (rs.length + 1) (cp - 1))).cell? ⟨b.lb, 1, none⟩ = some (.slice (some ⟨gb, off + 1, none⟩) (rs.length + 1) (cp - 1)) from HGO.out.c1)
                go_wp2
                go_roundw
                case rel => exact ⟨⟨b.lb, (.slice (some ⟨gb, off + 1, none⟩) (rs.length + 1) (cp - 1)), ov2, x1 :: rs⟩, g2 :: r, cost - (total g : Int), ch, rfl, HGO.out, HG2.out, HCO2.out, fun y hy => HSUB.out y (List.mem_cons_of_mem _ hy), HL2.out, by omega, by omega, by have := HTG.out; omega⟩
                case measure =>
                  rw [HQ.out, HC1.out]
                  exact Nat.lt_succ_self _
      · have z1 : decide (s1.lim < cost) = false := by simpa using hover
        obtain ⟨A9, d9, hv9, _⟩ := h2.slG.form
        have c1 : wr.cell? ⟨b.lb, 1, none⟩ = some (.slice A9 gs2.length d9) := h2.c1.trans (congrArg some hv9)
        have HE := hide (show s.close = { s1 with G := G, cost := cost, ch := ch } by unfold Lg.close; rw [← HS1.out]; unfold Lg.trimmed; rw [← HTR.out]; rw [trim_stop (.inl (by omega))])
        have HH := hide h2
        clear h2 hv9 hover
        go_wp2
        go_quiet (fail)
        go_wp2
        go_end0
        exact ⟨rfl, ⟨b.lb, gv2, ov2, gs2⟩, rfl, by rw [HE.out]; exact HH.out.drewN _⟩
end
end Go.Proofs.YtghcmakhfdnimaaDoor
