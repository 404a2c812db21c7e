/- Deleted; the methods where there is no object. No condition but those written. -/
import Derived.Test.YtgiogmbopiblmaaPpx
namespace Go.Proofs.Ytgiogmbopiblmaa
open Go.RowKit

def delE (a b : Int) : Int := if 1 ≤ a ∧ a ≤ b ∧ b ≤ 65537 then 0 else 3
def delQ (P : List Pc) (a b : Int) : List Pc := if 1 ≤ a ∧ a ≤ b ∧ b ≤ 65537 then delP a.toNat b.toNat P else P
section
variable {w : World} {b : Nat} {sv : Value} {L : List (Pc × Value)} {N : Nat}
set_option maxRecDepth 100000 in
set_option maxHeartbeats 16000000 in
theorem deleted_any (h : PropsAt w b sv L) (hg : Good (pcs L) N) (hN : N ≤ 1000) (a0 b0 : Int) :
    Calls Try.prog 26 #[.pointer (some ⟨b, 0, none⟩), .int .i64 a0, .int .i64 b0] w fun e w' => e = .returned (.int .i64 (delE a0 b0)) ∧ MRes w b sv (delQ (pcs L) a0 b0) w' := by
  have HSAME := hide (fun w' (hb : Below w.heap.size w w') => MRes.same h hb)
  have HMA := hide (may_any a0 b0 w)
  obtain ⟨A, c, rfl, _⟩ := h.inn.row.form
  have HNO := hide (none_at h)
  have c0 : w.cell? ⟨b, 0, none⟩ = some (.slice A L.length c) := h.box.cell 0
  have hLs := hg.size
  rw [pcs_len] at hLs
  have HP := hide h
  have HFI := hide hg.fits
  have HNB := hide (show N ≤ 1000000 by omega)
  have HGO := hide hg
  obtain ⟨nn, hnn⟩ : ∃ nn, nn = L.length := ⟨_, rfl⟩
  have hl2 : (nn : Int) ≤ 65537 := by omega
  rw [← hnn] at c0 HP HSAME ⊢
  have HNN := hide hnn
  have HL0 := hide (show OutAt w w (.slice none 0 0) [] N from ⟨Below.refl _ _, PcsAt.nil _, fun g hg => (by cases hg), fun p hp => by cases hp⟩)
  by_cases hm : 1 ≤ a0 ∧ a0 ≤ b0 ∧ b0 ≤ 65537
  · have hE : delE a0 b0 = 0 := if_pos hm
    have hQ : delQ (pcs L) a0 b0 = (pcs L).foldl (delStep a0.toNat b0.toNat) [] := if_pos hm
    rw [hE, hQ]
    rw [decide_eq_true hm] at HMA
    obtain ⟨fr, rfl⟩ : ∃ a : Nat, a0 = (a : Int) := ⟨a0.toNat, by omega⟩
    obtain ⟨en, rfl⟩ : ∃ a : Nat, b0 = (a : Int) := ⟨b0.toNat, by omega⟩
    simp only [Int.toNat_natCast]
    have hfe : fr ≤ en := by omega
    have hfr1 : 1 ≤ fr := by omega
    have hen1 : en ≤ 65537 := by omega
    have HNF := hide (show Nf 0 [] ((pcs L).foldl (delStep fr en) []) from (del_inv fr en hfe (pcs L) hg.nf).1)
    obtain ⟨dd, hdd⟩ : ∃ d, d = en - fr := ⟨_, rfl⟩
    have HDD := hide hdd
    have wd : IntKind.i64.wrap ((en : Int) - (fr : Int)) = (dd : Int) := by rw [show ((en : Int) - (fr : Int)) = (dd : Int) by omega]; exact IntWalk.i64_in _ (by omega)
    have hdd1 : dd ≤ 65536 := by omega
    have hdd2 : dd ≤ en := by omega
    clear h hg hLs hE hQ hnn hm hN hdd
    go_enter Try.func26, Try.ntmps26
    go_wp2_with (first | (go_at_call 52; (with_reducible refine Calls.mono HNO.out ?_); rintro r w2 ⟨rfl, rfl⟩) | (go_at_call 53; (with_reducible refine Calls.mono HMA.out ?_); rintro r w2 ⟨rfl, rfl⟩))
    go_loopw [7, 23] (fun ov iv wr => ∃ (k : Nat) (L' : List (Pc × Value)), k ≤ nn ∧ iv = .int .i64 (k : Int) ∧ OutAt w wr ov L' N ∧ pcs L' = ((pcs L).take k).foldl (delStep fr en) [] ∧ L'.length ≤ 2 * k) (fun _ iv _ => nn - (intOf iv).toNat)
    case atStart => exact ⟨0, [], Nat.zero_le _, rfl, HL0.out, rfl, Nat.zero_le _⟩
    case round =>
      obtain ⟨k, L', hk, rfl, hst, hfo, hlen⟩ := hrel
      obtain ⟨A1, d1, rfl, _⟩ := hst.inn.row.form
      have HFO := hide hfo
      have HLEN := hide hlen
      have HK2 := hide (show 2 * k ≤ 140000 by omega)
      by_cases hlt : k < nn
      · have y1 : decide (k < nn) = true := by simpa using hlt
        have y2 : decide ((k : Int) < (nn : Int)) = true := by simp; omega
        have y3 : (k : Int) < (nn : Int) := by omega
        obtain ⟨⟨⟨pf, pt, q⟩, pv⟩, hp⟩ : ∃ p, L[k]? = some p := ⟨_, List.getElem?_eq_getElem (by rw [← HNN.out]; exact hlt)⟩
        have hmem : (⟨pf, pt, q⟩ : Pc) ∈ pcs L := List.mem_map_of_mem (f := Prod.fst) (List.mem_of_getElem? hp)
        have hpp : (pcs L)[k]? = some ⟨pf, pt, q⟩ := by unfold pcs; rw [List.getElem?_map, hp]; rfl
        have hrd := HP.out.inn.rd.below hst.bel
        obtain ⟨g, off, Ap, cp, e1, rfl, p0, p1, p2⟩ := hrd.at_ HNN.out hp
        first | subst e1 | (injection e1 with e1; injection e1 with e3 e4; subst e3 e4)
        have hpv := hrd.inn _ (List.mem_of_getElem? hp)
        have hrng := HGO.out.mem hmem
        have H1 := hide (OutB.of hst hpv)
        have HQN := hide (show q.length ≤ N from HFI.out _ hmem)
        have HQL := hide (show q.length ≤ 1000000 from Nat.le_trans HQN.out HNB.out)
        have HPP := hide hpp
        have HLT := hide hlt
        obtain ⟨b0, b1, b2⟩ := H1.out.cells
        have hpt : pt ≤ 65537 := hrng.2.2.1
        have hpf : pf < pt := hrng.2.1
        obtain ⟨m1, hm1⟩ : ∃ m, m = min pt fr := ⟨_, rfl⟩
        obtain ⟨a1, ha1⟩ : ∃ m, m = max pf en := ⟨_, rfl⟩
        have q1 : ∀ (w : World), (Builtin.min_ #[3, 3] 3 #[.int .i64 (pt : Int), .int .i64 (fr : Int)]).run Try.prog w = .ok (.int .i64 (m1 : Int)) w := fun w => by rw [run_min_int2, hm1]; congr 3; split <;> omega
        have q2 : ∀ (w : World), (Builtin.max_ #[3, 3] 3 #[.int .i64 (pf : Int), .int .i64 (en : Int)]).run Try.prog w = .ok (.int .i64 (a1 : Int)) w := fun w => by rw [run_max_int2, ha1]; congr 3; split <;> omega
        obtain ⟨s1, hs1⟩ : ∃ s, s = a1 - dd := ⟨_, rfl⟩
        obtain ⟨s2, hs2⟩ : ∃ s : Int, s = (pt : Int) - (dd : Int) := ⟨_, rfl⟩
        have q3 : IntKind.i64.wrap ((a1 : Int) - (dd : Int)) = (s1 : Int) := by rw [show ((a1 : Int) - (dd : Int)) = (s1 : Int) by omega]; exact IntWalk.i64_in _ (by omega)
        have q4 : IntKind.i64.wrap ((pt : Int) - (dd : Int)) = s2 := by rw [← hs2]; exact IntWalk.i64_in _ (by omega)
        have HM1 := hide hm1
        have HA1 := hide ha1
        have HS1 := hide hs1
        have HS2 := hide hs2
        have HS3 := hide (show s2.toNat = pt - dd by omega)
        clear hm1 ha1 hs1 hs2
        clear hst hfo hrd hpv hp hpp hlt hlen hk hmem hrng
        · go_upto_region 10 with (go_at_call 56; (with_reducible refine Calls.mono (add_any H1.out.st.inn H1.out.pr (pf : Int) (m1 : Int) (by have := HLEN.out; have := HK2.out; omega) HQL.out (fun p hp => Nat.le_trans (H1.out.st.fit _ (List.mem_map_of_mem hp)) HNB.out) (fun _ => by omega)) ?_); rintro r w2 ⟨v2, L2, rfl, p2, e2, o2, g2⟩; have H2 := hide (OutB.put H1.out p2 e2 o2 g2 HQN.out); have E2 := hide e2; have N2 := hide (len_step e2); obtain ⟨A2, d2, rfl, _⟩ := p2.row.form; obtain ⟨k0, k1, k2⟩ := H2.out.cells; clear p2 e2 o2 g2)
          go_wp2_with (go_at_call 56; (with_reducible refine Calls.mono (add_any H2.out.st.inn H2.out.pr (s1 : Int) s2 (by have := HLEN.out; have := N2.out; have := HK2.out; omega) HQL.out (fun p hp => Nat.le_trans (H2.out.st.fit _ (List.mem_map_of_mem hp)) HNB.out) (fun _ => by omega)) ?_); rintro r w3 ⟨v3, L3, rfl, p3, e3, o3, g3⟩; have H3 := hide (OutB.put H2.out p3 e3 o3 g3 HQN.out); have E3 := hide e3; have N3 := hide (len_step e3); obtain ⟨A3, d3, rfl, _⟩ := p3.row.form; obtain ⟨k0, k1, k2⟩ := H3.out.cells; clear p3 e3 o3 g3)
          go_roundw
          case rel =>
            refine ⟨k + 1, L3, HLT.out, by go_num, H3.out.st, ?_, by have := N2.out; have := N3.out; have := HLEN.out; omega⟩
            have e2 := E2.out
            have e3 := E3.out
            simp only [Int.toNat_natCast] at e2 e3
            rw [foldl_snoc _ _ _ _ _ HPP.out, ← HFO.out, e3, e2, HM1.out, HS1.out, HS3.out, HA1.out, HDD.out]
            rfl
          case measure => have := HLT.out; simp [intOf]; omega

      · obtain rfl : k = nn := by omega
        have y1 : decide (k < k) = false := by simp
        have y2 : decide ((k : Int) < (k : Int)) = false := by simp
        have HST := hide hst
        have hkb := HP.out.below hst.bel
        have k0 := hkb.box.cell 0
        have kf := hkb.box.frozen 0
        clear hst hfo hlen hlt hk hkb
        go_wp2
        go_ret
        refine ⟨rfl, ?_⟩
        have e := HFO.out
        rw [List.take_of_length_le (by rw [pcs_len, ← HNN.out]; exact Nat.le_refl _)] at e
        have hm := HP.out.store (F := fun _ => False) (Only.of_below HST.out.bel) (fun g h => h.elim) HST.out.inn (by rw [e]; exact HNF.out) (fun g hg => .inr (HST.out.own g hg)) rfl
        rw [e] at hm
        exact hm
  · have hE : delE a0 b0 = 3 := if_neg hm
    have hQ : delQ (pcs L) a0 b0 = pcs L := if_neg hm
    rw [hE, hQ]
    rw [decide_eq_false hm] at HMA
    clear h hg hLs hE hQ hnn hm hN
    go_enter Try.func26, Try.ntmps26
    go_wp2_with (first | (go_at_call 52; (with_reducible refine Calls.mono HNO.out ?_); rintro r w2 ⟨rfl, rfl⟩) | (go_at_call 53; (with_reducible refine Calls.mono HMA.out ?_); rintro r w2 ⟨rfl, rfl⟩))
    go_ret
    exact ⟨rfl, HSAME.out _ (Below.refl _ _)⟩
end
end Go.Proofs.Ytgiogmbopiblmaa
