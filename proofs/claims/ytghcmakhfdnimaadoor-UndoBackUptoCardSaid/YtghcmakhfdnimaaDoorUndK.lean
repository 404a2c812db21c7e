/- The walk of the reference's comparison of groups. No condition but those written. -/
import Derived.Test.YtghcmakhfdnimaaDoorUndJ
namespace Go.Proofs.YtghcmakhfdnimaaDoor
open Go.RowKit
attribute [local go_sem 2000] neq_chg

theorem RdG.drewN {w : World} {v : Value} {hs : List (Value × List Chg)} (h : RdG w v hs) (q : Nat) : RdG (w.drewN q) v hs := ⟨h.hd, h.el⟩
abbrev grps (hs : List (Value × List Chg)) : List (List Chg) := hs.map fun x => x.2
/-- The header and the elements of group k. -/
theorem RdG.at_ {w : World} {A : Option Addr} {n c : Nat} {hs : List (Value × List Chg)} (h : RdG w (.slice A n c) hs) {k : Nat} {x : Value × List Chg} (hx : hs[k]? = some x) :
    ∃ g off, A = some ⟨g, off, none⟩ ∧ w.cell? ⟨g, off + k, none⟩ = some x.1 ∧ ∃ A0 c0, x.1 = .slice A0 x.2.length c0 ∧ Rd w x.1 9 x.2.length (rows Chg.cells x.2) := by
  obtain ⟨g, off, hA, hc⟩ := Rd.cells h.hd (by have := (List.getElem?_eq_some_iff.1 hx).1; omega)
  refine ⟨g, off, hA, hc k x.1 (by rw [List.getElem?_map, hx]; rfl), ?_⟩
  have h1 := h.el x (List.mem_of_getElem? hx)
  obtain ⟨A0, c0, e, _⟩ := id h1
  exact ⟨A0, c0, e, h1⟩
set_option maxRecDepth 100000 in
set_option maxHeartbeats 4000000 in
theorem same19_any (hs ks : List (Value × List Chg)) (v1 v2 : Value) (w : World) (h1 : RdG w v1 hs) (h2 : RdG w v2 ks) (hl : hs.length ≤ 1000000) (kl : ks.length ≤ 1000000) (hle : ∀ x ∈ hs, x.2.length ≤ 1000000) (hke : ∀ x ∈ ks, x.2.length ≤ 1000000) :
    Calls Tryd.prog 22 #[v1, v2] w fun e w' => e = .returned (.bool (isB (grps hs = grps ks))) ∧ ∃ q, w' = w.drewN q := by
  obtain ⟨A1, c1, rfl, e1⟩ := id h1.hd
  obtain ⟨A2, c2, rfl, e2⟩ := id h2.hd
  clear e1 e2
  obtain ⟨n, hn⟩ : ∃ n, n = hs.length := ⟨_, rfl⟩
  obtain ⟨m, hm⟩ : ∃ m, m = ks.length := ⟨_, rfl⟩
  have HN := hide hn
  have HM := hide hm
  have HLE := hide hle
  have HKE := hide hke
  rw [← hn] at hl h1 ⊢
  rw [← hm] at kl h2 ⊢
  have H1 := hide h1
  have H2 := hide h2
  clear h1 h2 hn hm hle hke
  by_cases hlen : n = m
  · subst hlen
    have hz : ((n : Int) != (n : Int)) = false := by simp
    go_enter Tryd.func22, Tryd.ntmps22
    go_wp2
    go_loopw [5] (fun i wr => ∃ k q : Nat, k ≤ n ∧ i = .int .i64 (k : Int) ∧ AgreeU (grps hs) (grps ks) k ∧ wr = w.drewN q) (fun i _ => n - (intOf i).toNat)
    case atStart => exact ⟨0, 0, Nat.zero_le _, rfl, rfl, rfl⟩
    case round =>
      obtain ⟨k, q, hk, rfl, hA, rfl⟩ := hrel
      by_cases hlt : k < n
      · have y1 : decide (k < n) = true := by simpa using hlt
        have y2 : decide ((k : Int) < (n : Int)) = true := by simp; omega
        obtain ⟨⟨x, l⟩, hx⟩ : ∃ x, hs[k]? = some x := ⟨_, List.getElem?_eq_getElem (by rw [← HN.out]; exact hlt)⟩
        obtain ⟨⟨y, p⟩, hy⟩ : ∃ y, ks[k]? = some y := ⟨_, List.getElem?_eq_getElem (by rw [← HM.out]; exact hlt)⟩
        obtain ⟨g1, o1, rfl, r1, B1, b1, ex, rx⟩ := H1.out.at_ hx
        obtain ⟨g2, o2, rfl, r2, B2, b2, ey, ry⟩ := H2.out.at_ hy
        simp only at ex ey
        subst ex ey
        have HX := hide (show (grps hs)[k]? = some l by simp only [grps, List.getElem?_map, hx]; rfl)
        have HY := hide (show (grps ks)[k]? = some p by simp only [grps, List.getElem?_map, hy]; rfl)
        have ll : l.length ≤ 1000000 := HLE.out _ (List.mem_of_getElem? hx)
        have pl : p.length ≤ 1000000 := HKE.out _ (List.mem_of_getElem? hy)
        obtain ⟨nl, hnl⟩ : ∃ nl, nl = l.length := ⟨_, rfl⟩
        obtain ⟨np, hnp⟩ : ∃ np, np = p.length := ⟨_, rfl⟩
        simp only at r1 r2 rx ry
        rw [← hnl] at r1 rx ll
        rw [← hnp] at r2 ry pl
        have HNL := hide hnl
        have HNP := hide hnp
        have RX := hide rx
        have RY := hide ry
        have HA := hide hA
        have HLT := hide hlt
        clear hx hy rx ry hA hnl hnp hk
        by_cases hlp : nl = np
        · subst hlp
          have hz2 : ((nl : Int) != (nl : Int)) = false := by simp
          go_wp2
          go_region
          go_wp2
          go_loopw [6] (fun i wr => ∃ j r : Nat, j ≤ nl ∧ i = .int .i64 (j : Int) ∧ AgreeU l p j ∧ wr = w.drewN r) (fun i _ => nl - (intOf i).toNat)
          case atStart => exact ⟨0, q + 1, Nat.zero_le _, rfl, rfl, rfl⟩
          case round =>
            obtain ⟨j, r, hj, rfl, hB, rfl⟩ := hrel
            by_cases hjl : j < nl
            · have y3 : decide (j < nl) = true := by simpa using hjl
              have y4 : decide ((j : Int) < (nl : Int)) = true := by simp; omega
              obtain ⟨c, hc⟩ : ∃ c, l[j]? = some c := ⟨_, List.getElem?_eq_getElem (by rw [← HNL.out]; exact hjl)⟩
              obtain ⟨d, hd⟩ : ∃ d, p[j]? = some d := ⟨_, List.getElem?_eq_getElem (by rw [← HNP.out]; exact hjl)⟩
              have ra : Rd w (.slice B1 nl b1) 9 l.length (rows Chg.cells l) := by rw [← HNL.out]; exact RX.out
              have rb : Rd w (.slice B2 nl b2) 9 p.length (rows Chg.cells p) := by rw [← HNP.out]; exact RY.out
              obtain ⟨g3, o3, d3, hv3, hc3⟩ := Rd.atC ra (by rw [← HNL.out]; omega)
              obtain ⟨g4, o4, d4, hv4, hc4⟩ := Rd.atC rb (by rw [← HNP.out]; omega)
              obtain ⟨rfl, rfl⟩ : B1 = some ⟨g3, o3, none⟩ ∧ b1 = d3 := by
                injection hv3 with e1 _ e2
                exact ⟨e1, e2⟩
              obtain ⟨rfl, rfl⟩ : B2 = some ⟨g4, o4, none⟩ ∧ b2 = d4 := by
                injection hv4 with e1 _ e2
                exact ⟨e1, e2⟩
              obtain ⟨p0, p1, p2, p3, p4, p5, p6, p7, p8⟩ := hc3 j c hc
              obtain ⟨q0, q1, q2, q3, q4, q5, q6, q7, q8⟩ := hc4 j d hd
              have HCC := hide hc
              have HDD := hide hd
              have HBB := hide hB
              have HJL := hide hjl
              clear hc hd hB hc3 hc4 hv3 hv4 hj ra rb
              cases he : c.eqB d with
              | true =>
                obtain rfl := (Chg.eqB_iff c d).1 he
                go_wp2
                go_region
                go_wp2
                go_roundw
                case rel => exact ⟨j + 1, r + 1, HJL.out, by go_num, agreeU_step HBB.out HCC.out HDD.out, rfl⟩
                case measure => have := HJL.out; simp [intOf]; omega
              | false =>
                have HNE := hide (isB_false (agreeU_not HX.out HY.out (agreeU_not HCC.out HDD.out fun e => by rw [(Chg.eqB_iff c d).2 e] at he; cases he)))
                go_wp2
                go_region
                go_wp2
                go_ret
                exact ⟨by rw [HNE.out]; rfl, r + 1, rfl⟩
            · have y3 : decide (j < nl) = false := by simpa using hjl
              have y4 : decide ((j : Int) < (nl : Int)) = false := by simp; omega
              obtain rfl : j = nl := by omega
              have HEL := hide (agreeU_end (l := l) (m := p) (HNL.out.symm.trans HNP.out) (by rw [← HNL.out]; exact hB))
              have HYY := hide (show (grps ks)[k]? = some l by rw [HEL.out]; exact HY.out)
              clear hB hj hjl
              go_wp2
              go_roundw
              case rel => exact ⟨k + 1, r, HLT.out, by go_num, agreeU_step HA.out HX.out HYY.out, rfl⟩
              case measure => have := HLT.out; simp [intOf]; omega
        · have hz2 : ((nl : Int) != (np : Int)) = true := by simp; omega
          have HNE := hide (isB_false (agreeU_not HX.out HY.out (fun e => hlp (by rw [HNL.out, HNP.out, e]))))
          clear hlp
          go_wp2
          go_region
          go_wp2
          go_ret
          exact ⟨by rw [HNE.out]; rfl, q + 1, rfl⟩
      · have y1 : decide (k < n) = false := by simpa using hlt
        have y2 : decide ((k : Int) < (n : Int)) = false := by simp; omega
        obtain rfl : k = n := by omega
        have HE := hide (isB_true (agreeU_end (l := grps hs) (m := grps ks) (by simp only [grps, List.length_map]; rw [← HN.out, ← HM.out]) (by simp only [grps, List.length_map]; rw [← HN.out]; exact hA)))
        clear hA hk hlt
        go_wp2
        go_ret
        exact ⟨by rw [HE.out]; rfl, q, rfl⟩
  · have hz : ((n : Int) != (m : Int)) = true := by simp; omega
    have HNE := hide (isB_false (fun e : grps hs = grps ks => hlen (by rw [HN.out, HM.out]; have := congrArg List.length e; simpa [grps] using this)))
    clear hlen
    go_enter Tryd.func22, Tryd.ntmps22
    go_wp2
    go_ret
    exact ⟨by rw [HNE.out]; rfl, 0, rfl⟩
end Go.Proofs.YtghcmakhfdnimaaDoor
