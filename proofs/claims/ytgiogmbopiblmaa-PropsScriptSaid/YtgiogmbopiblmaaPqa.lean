/- The next boundary. No condition but those written. -/
import Derived.Test.YtgiogmbopiblmaaPpz
namespace Go.Proofs.Ytgiogmbopiblmaa
open Go.RowKit

/-- Is this boundary the one? -/
def goodB (same : List Pr → List Pr → Bool) (P : List Pc) (at_ most : Int) (b : Nat) : Bool := decide (at_ < (b : Int)) && decide ((b : Int) < most) && !same (denI P at_) (den P b)
theorem denI_nat (P : List Pc) (b : Nat) : denI P (b : Int) = den P b := by
  unfold denI
  rw [if_neg (by omega), Int.toNat_natCast]
theorem nextP_eq (same : List Pr → List Pr → Bool) (P : List Pc) (at_ most : Int) : nextP same P at_ most = match (bnds P).find? (goodB same P at_ most) with
  | some b => (b : Int)
  | none => most := rfl
theorem bnds_at {P : List Pc} {k : Nat} {p : Pc} (h : P[k]? = some p) : bnds P = bnds (P.take k) ++ ([p.fr, p.to] ++ bnds (P.drop (k + 1))) := by
  have hk := (List.getElem?_eq_some_iff.1 h).1
  have e : P = P.take k ++ p :: P.drop (k + 1) := by
    have h2 := (List.getElem?_eq_some_iff.1 h).2
    rw [← h2, List.getElem_cons_drop, List.take_append_drop]
  have e2 : bnds P = bnds (P.take k ++ p :: P.drop (k + 1)) := by rw [← e]
  rw [e2]
  unfold bnds
  rw [List.flatMap_append, List.flatMap_cons]
section
variable {same : List Pr → List Pr → Bool} {P : List Pc} {at_ most : Int} {k : Nat} {p : Pc}
theorem nextP_hit0 (h : (bnds (P.take k)).find? (goodB same P at_ most) = none) (hp : P[k]? = some p) (hg : goodB same P at_ most p.fr = true) : nextP same P at_ most = (p.fr : Int) := by
  rw [nextP_eq, bnds_at hp, List.find?_append, h]
  simp [hg]
theorem nextP_hit1 (h : (bnds (P.take k)).find? (goodB same P at_ most) = none) (hp : P[k]? = some p) (h0 : goodB same P at_ most p.fr = false) (hg : goodB same P at_ most p.to = true) : nextP same P at_ most = (p.to : Int) := by
  rw [nextP_eq, bnds_at hp, List.find?_append, h]
  simp [hg, h0]
theorem nextP_skip (h : (bnds (P.take k)).find? (goodB same P at_ most) = none) (hp : P[k]? = some p) (h0 : goodB same P at_ most p.fr = false) (h1 : goodB same P at_ most p.to = false) : (bnds (P.take (k + 1))).find? (goodB same P at_ most) = none := by
  have e : bnds (P.take (k + 1)) = bnds (P.take k) ++ [p.fr, p.to] := by
    rw [List.take_add_one, hp]
    unfold bnds
    rw [List.flatMap_append]
    rfl
  rw [e, List.find?_append, h]
  simp [h0, h1]
end
theorem idx0 (x y : Int) (w : World) : (Instr.index 89 (.agg #[.int .i64 x, .int .i64 y]) (.int .i64 0)).run Try.prog w = .ok (.int .i64 x) w := by kernel_rfl
theorem idx1 (x y : Int) (w : World) : (Instr.index 89 (.agg #[.int .i64 x, .int .i64 y]) (.int .i64 1)).run Try.prog w = .ok (.int .i64 y) w := by kernel_rfl
/-- A function of the program that compares two lists, with captured variables. -/
structure SameOk (W : World) (fid : Nat) (caps : Array Value) (same : List Pr → List Pr → Bool) (N : Nat) : Prop where
  cf : ∀ (args : Array Value) (w : World), (callFunc fid args).run Try.prog w = .ok (.enter fid args) w
  call : ∀ (w : World) (v1 v2 : Value) (q1 q2 : List Pr), Below W.heap.size W w → PrS w v1 q1 → PrS w v2 q2 → q1.length ≤ N → q2.length ≤ N → Calls Try.prog fid (#[v1, v2] ++ caps) w fun e w' => e = .returned (.bool (same q1 q2)) ∧ Below w.heap.size w w'
section
variable {w : World} {b : Nat} {sv : Value} {L : List (Pc × Value)} {N fid : Nat} {caps : Array Value} {same : List Pr → List Pr → Bool}
set_option maxRecDepth 100000 in
set_option maxHeartbeats 16000000 in
theorem next_any (h : PropsAt w b sv L) (hg : Good (pcs L) N) (_hN : N ≤ 1000) (hs : SameOk w fid caps same N) (at_ most : Int) :
    Calls Try.prog 58 #[.pointer (some ⟨b, 0, none⟩), .int .i64 at_, .int .i64 most, .func (.func fid) #[] caps] w fun e w' => e = .returned (.int .i64 (nextP same (pcs L) at_ most)) ∧ Below w.heap.size w w' := by
  have hcf := hs.cf
  have HSA := hide hs
  obtain ⟨A, c, rfl, _⟩ := h.inn.row.form
  have HNO := hide (none_at h)
  have hLs := hg.size
  rw [pcs_len] at hLs
  have HLL := hide (show L.length ≤ 1000000 by omega)
  have HL0 := hide (list_at h at_ (by omega))
  have HP := hide h
  have HGO := hide hg
  have HDL := hide (show ∀ x, (denI (pcs L) x).length ≤ N from fun x => by
    unfold denI
    split
    · simp
    · exact hg.len _)
  have HL1 := hide (HDL.out at_)
  obtain ⟨nn, hnn⟩ : ∃ nn, nn = L.length := ⟨_, rfl⟩
  have hl2 : (nn : Int) ≤ 65537 := by omega
  rw [← hnn] at HP
  have HNN := hide hnn
  clear h hg hs hLs hnn
  go_enter Try.func58, Try.ntmps58
  go_wp2_with (first | (go_at_call 52; (with_reducible refine Calls.mono HNO.out ?_); rintro r w2 ⟨rfl, rfl⟩) | (go_at_call 51; (with_reducible refine Calls.mono HL0.out ?_); rintro r w2 ⟨v2, rfl, h2, b2⟩; have HB2 := hide b2; obtain ⟨A2, c2, rfl, _⟩ := Sl.form h2; have HOWN := hide (fun (w3 : World) (hb : Below w2.heap.size w2 w3) => PrS.below h2 hb); have d0 := (HP.out.below b2).box.cell 0; clear h2 b2))
  go_loopw [25] (fun iv wr => ∃ k : Nat, k ≤ nn ∧ iv = .int .i64 (k : Int) ∧ Below w2.heap.size w2 wr ∧ (bnds ((pcs L).take k)).find? (goodB same (pcs L) at_ most) = none) (fun iv _ => nn - (intOf iv).toNat)
  case atStart => exact ⟨0, Nat.zero_le _, rfl, Below.refl _ _, rfl⟩
  case round =>
    obtain ⟨k, hk, rfl, hbo, hno⟩ := hrel
    have HNO2 := hide hno
    have HBO := hide hbo
    by_cases hlt : k < nn
    · have y1 : decide (k < nn) = true := by simpa using hlt
      have y2 : decide ((k : Int) < (nn : Int)) = true := by simp; omega
      have y3 : (k : Int) < (nn : Int) := by omega
      obtain ⟨⟨⟨pf, pt, q⟩, pv⟩, hp⟩ : ∃ p, L[k]? = some p := ⟨_, List.getElem?_eq_getElem (by rw [← HNN.out]; exact hlt)⟩
      have hmem : (⟨pf, pt, q⟩ : Pc) ∈ pcs L := List.mem_map_of_mem (f := Prod.fst) (List.mem_of_getElem? hp)
      have hpp : (pcs L)[k]? = some ⟨pf, pt, q⟩ := by unfold pcs; rw [List.getElem?_map, hp]; rfl
      have hrd := HP.out.inn.rd.below (HB2.out.trans (hbo.mono HB2.out.size))
      obtain ⟨g, off, Ap, cp, e1, rfl, p0, p1, p2⟩ := hrd.at_ HNN.out hp
      subst e1
      have hrng : 1 ≤ pf ∧ pf < pt ∧ pt ≤ 65537 := ⟨(HGO.out.mem hmem).1, (HGO.out.mem hmem).2.1, (HGO.out.mem hmem).2.2.1⟩
      have hbx := below_box wr (.cells #[.int .i64 (pf : Int), .int .i64 (pt : Int), .slice Ap q.length cp] 73)
      have HBX := hide (hbo.trans (hbx.mono hbo.size))
      have HBK := hide (Blk.new wr 73 #[.int .i64 (pf : Int), .int .i64 (pt : Int), .slice Ap q.length cp])
      have HPP := hide hpp
      have HLT := hide hlt
      have HRG := hide (show pf ≤ 65537 ∧ pt ≤ 65537 by omega)
      have b0 := HBK.out.cell 0
      have b1 := HBK.out.cell 1
      have b2 := HBK.out.cell 2
      clear hbo hno hrd hp hpp hlt hk hmem hrng hbx
      go_wp2
      obtain ⟨w3, hw3⟩ : ∃ x : World, x = wr := ⟨_, rfl⟩
      clear hw3
      go_loopw [36] (fun jv wq => ∃ j : Int, (j = 0 ∨ (j = 1 ∧ goodB same (pcs L) at_ most pf = false) ∨ (j = 2 ∧ goodB same (pcs L) at_ most pf = false ∧ goodB same (pcs L) at_ most pt = false)) ∧ jv = .int .i64 j ∧ Below w2.heap.size w2 wq) (fun jv _ => 2 - (intOf jv).toNat)
      case atStart => exact ⟨0, .inl rfl, rfl, HBX.out⟩
      case round =>
        obtain ⟨j, hj, rfl, hbi⟩ := hrel
        have HBJ := hide hbi
        have HBI := hide (HB2.out.trans (hbi.mono HB2.out.size))
        clear hbi
        rcases hj with rfl | ⟨rfl, hg0⟩ | ⟨rfl, hg0, hg1⟩
        · obtain ⟨bd, hbd⟩ : ∃ m, m = pf := ⟨_, rfl⟩
          have ix : ∀ w : World, (Instr.index 89 (.agg #[.int .i64 (pf : Int), .int .i64 (pt : Int)]) (.int .i64 0)).run Try.prog w = .ok (.int .i64 (bd : Int)) w := fun w => by rw [hbd]; exact idx0 _ _ w
          have HBD := hide hbd
          have hbdl : (bd : Int) ≤ 65537 := by have := HRG.out; omega
          clear hbd
          by_cases h1 : at_ < (bd : Int)
          · have u1 : decide (at_ < (bd : Int)) = true := by simpa using h1
            by_cases h2 : (bd : Int) < most
            · have u2 : decide ((bd : Int) < most) = true := by simpa using h2
              have HLB := hide (fun (w2 : World) (hb : Below w.heap.size w w2) => list_at (HP.out.below hb) (bd : Int) HLL.out)
              have HL2 := hide (show (denI (pcs L) (bd : Int)).length ≤ N from HDL.out _)
              cases hsv : same (denI (pcs L) at_) (denI (pcs L) (bd : Int)) with
              | true =>
                have HSV := hide hsv
                have HG := hide (show goodB same (pcs L) at_ most pf = false from by rw [← HBD.out]; unfold goodB; rw [← denI_nat, hsv]; simp)
                clear hsv
                go_wp2_with (first | (go_at_call 51; (with_reducible refine Calls.mono (HLB.out _ HBI.out) ?_); rintro r w4 ⟨v4, rfl, h4, b4⟩; have HB4 := hide (HBI.out.trans (b4.mono HBI.out.size)); have HB4J := hide (HBJ.out.trans (b4.mono HBJ.out.size)); have HSM := hide (HSA.out.call w4 _ _ _ _ HB4.out (HOWN.out _ HB4J.out) h4 HL1.out HL2.out); rw [HSV.out] at HSM; obtain ⟨A4, c4, rfl, _⟩ := Sl.form h4; clear h4 b4) | ((with_reducible refine Calls.mono HSM.out ?_); rintro r w5 ⟨rfl, b5⟩; have HB5 := hide (HB4.out.trans (b5.mono HB4.out.size)); have HB5J := hide (HB4J.out.trans (b5.mono HB4J.out.size)); clear b5))
                go_roundw
                case rel => exact ⟨1, .inr (.inl ⟨rfl, HG.out⟩), by go_num, HB5J.out⟩
                case measure => simp [intOf]
              | false =>
                have HSV := hide hsv
                have HG := hide (show goodB same (pcs L) at_ most pf = true from by rw [← HBD.out]; unfold goodB; rw [← denI_nat, hsv, u1, u2]; rfl)
                clear hsv
                go_wp2_with (first | (go_at_call 51; (with_reducible refine Calls.mono (HLB.out _ HBI.out) ?_); rintro r w4 ⟨v4, rfl, h4, b4⟩; have HB4 := hide (HBI.out.trans (b4.mono HBI.out.size)); have HB4J := hide (HBJ.out.trans (b4.mono HBJ.out.size)); have HSM := hide (HSA.out.call w4 _ _ _ _ HB4.out (HOWN.out _ HB4J.out) h4 HL1.out HL2.out); rw [HSV.out] at HSM; obtain ⟨A4, c4, rfl, _⟩ := Sl.form h4; clear h4 b4) | ((with_reducible refine Calls.mono HSM.out ?_); rintro r w5 ⟨rfl, b5⟩; have HB5 := hide (HB4.out.trans (b5.mono HB4.out.size)); have HB5J := hide (HB4J.out.trans (b5.mono HB4J.out.size)); clear b5))
                go_ret
                exact ⟨by rw [nextP_hit0 HNO2.out HPP.out HG.out]; show _ = Ending.returned (.int .i64 (pf : Int)); rw [← HBD.out]; rfl, HB5.out⟩
            · have u2 : decide ((bd : Int) < most) = false := by simpa using h2
              have HG := hide (show goodB same (pcs L) at_ most pf = false from by rw [← HBD.out]; unfold goodB; rw [u2]; simp)
              go_wp2
              go_roundw
              case rel => exact ⟨1, .inr (.inl ⟨rfl, HG.out⟩), by go_num, HBJ.out⟩
              case measure => simp [intOf]
          · have u1 : decide (at_ < (bd : Int)) = false := by simpa using h1
            have HG := hide (show goodB same (pcs L) at_ most pf = false from by rw [← HBD.out]; unfold goodB; rw [u1]; simp)
            go_wp2
            go_roundw
            case rel => exact ⟨1, .inr (.inl ⟨rfl, HG.out⟩), by go_num, HBJ.out⟩
            case measure => simp [intOf]
        · have HG0 := hide hg0
          clear hg0
          obtain ⟨bd, hbd⟩ : ∃ m, m = pt := ⟨_, rfl⟩
          have ix : ∀ w : World, (Instr.index 89 (.agg #[.int .i64 (pf : Int), .int .i64 (pt : Int)]) (.int .i64 1)).run Try.prog w = .ok (.int .i64 (bd : Int)) w := fun w => by rw [hbd]; exact idx1 _ _ w
          have HBD := hide hbd
          have hbdl : (bd : Int) ≤ 65537 := by have := HRG.out; omega
          clear hbd
          by_cases h1 : at_ < (bd : Int)
          · have u1 : decide (at_ < (bd : Int)) = true := by simpa using h1
            by_cases h2 : (bd : Int) < most
            · have u2 : decide ((bd : Int) < most) = true := by simpa using h2
              have HLB := hide (fun (w2 : World) (hb : Below w.heap.size w w2) => list_at (HP.out.below hb) (bd : Int) HLL.out)
              have HL2 := hide (show (denI (pcs L) (bd : Int)).length ≤ N from HDL.out _)
              cases hsv : same (denI (pcs L) at_) (denI (pcs L) (bd : Int)) with
              | true =>
                have HSV := hide hsv
                have HG := hide (show goodB same (pcs L) at_ most pt = false from by rw [← HBD.out]; unfold goodB; rw [← denI_nat, hsv]; simp)
                clear hsv
                go_wp2_with (first | (go_at_call 51; (with_reducible refine Calls.mono (HLB.out _ HBI.out) ?_); rintro r w4 ⟨v4, rfl, h4, b4⟩; have HB4 := hide (HBI.out.trans (b4.mono HBI.out.size)); have HB4J := hide (HBJ.out.trans (b4.mono HBJ.out.size)); have HSM := hide (HSA.out.call w4 _ _ _ _ HB4.out (HOWN.out _ HB4J.out) h4 HL1.out HL2.out); rw [HSV.out] at HSM; obtain ⟨A4, c4, rfl, _⟩ := Sl.form h4; clear h4 b4) | ((with_reducible refine Calls.mono HSM.out ?_); rintro r w5 ⟨rfl, b5⟩; have HB5 := hide (HB4.out.trans (b5.mono HB4.out.size)); have HB5J := hide (HB4J.out.trans (b5.mono HB4J.out.size)); clear b5))
                go_roundw
                case rel => exact ⟨2, .inr (.inr ⟨rfl, HG0.out, HG.out⟩), by go_num, HB5J.out⟩
                case measure => simp [intOf]
              | false =>
                have HSV := hide hsv
                have HG := hide (show goodB same (pcs L) at_ most pt = true from by rw [← HBD.out]; unfold goodB; rw [← denI_nat, hsv, u1, u2]; rfl)
                clear hsv
                go_wp2_with (first | (go_at_call 51; (with_reducible refine Calls.mono (HLB.out _ HBI.out) ?_); rintro r w4 ⟨v4, rfl, h4, b4⟩; have HB4 := hide (HBI.out.trans (b4.mono HBI.out.size)); have HB4J := hide (HBJ.out.trans (b4.mono HBJ.out.size)); have HSM := hide (HSA.out.call w4 _ _ _ _ HB4.out (HOWN.out _ HB4J.out) h4 HL1.out HL2.out); rw [HSV.out] at HSM; obtain ⟨A4, c4, rfl, _⟩ := Sl.form h4; clear h4 b4) | ((with_reducible refine Calls.mono HSM.out ?_); rintro r w5 ⟨rfl, b5⟩; have HB5 := hide (HB4.out.trans (b5.mono HB4.out.size)); have HB5J := hide (HB4J.out.trans (b5.mono HB4J.out.size)); clear b5))
                go_ret
                exact ⟨by rw [nextP_hit1 HNO2.out HPP.out HG0.out HG.out]; show _ = Ending.returned (.int .i64 (pt : Int)); rw [← HBD.out]; rfl, HB5.out⟩
            · have u2 : decide ((bd : Int) < most) = false := by simpa using h2
              have HG := hide (show goodB same (pcs L) at_ most pt = false from by rw [← HBD.out]; unfold goodB; rw [u2]; simp)
              go_wp2
              go_roundw
              case rel => exact ⟨2, .inr (.inr ⟨rfl, HG0.out, HG.out⟩), by go_num, HBJ.out⟩
              case measure => simp [intOf]
          · have u1 : decide (at_ < (bd : Int)) = false := by simpa using h1
            have HG := hide (show goodB same (pcs L) at_ most pt = false from by rw [← HBD.out]; unfold goodB; rw [u1]; simp)
            go_wp2
            go_roundw
            case rel => exact ⟨2, .inr (.inr ⟨rfl, HG0.out, HG.out⟩), by go_num, HBJ.out⟩
            case measure => simp [intOf]
        · have HG0 := hide hg0
          have HG1 := hide hg1
          clear hg0 hg1
          go_wp2
          go_roundw
          case rel => exact ⟨k + 1, HLT.out, by go_num, HBJ.out, nextP_skip HNO2.out HPP.out HG0.out HG1.out⟩
          case measure => have := HLT.out; simp [intOf]; omega
    · obtain rfl : k = nn := by omega
      have y1 : decide (k < k) = false := by simp
      have y2 : decide ((k : Int) < (k : Int)) = false := by simp
      clear hbo hno hlt hk
      go_wp2
      go_ret
      have e := HNO2.out
      rw [List.take_of_length_le (by rw [pcs_len, ← HNN.out]; exact Nat.le_refl _)] at e
      exact ⟨by rw [nextP_eq, e]; rfl, HB2.out.trans (HBO.out.mono HB2.out.size)⟩
end
end Go.Proofs.Ytgiogmbopiblmaa
