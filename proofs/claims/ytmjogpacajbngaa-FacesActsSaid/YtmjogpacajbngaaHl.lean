/- FacesActs: the walk. No condition but those written. -/
import Derived.Test.YtmjogpacajbngaaHk
import Derived.Test.YtmjogpacajbngaaFx
namespace Go.Proofs.Ytmjogpacajbngaa
open Go.RowKit

theorem act_cells {w' : World} {g : Nat} {x : Fac} (h : Blk w' g 56 x.cells.toArray) : w'.cell? ⟨g, 0, none⟩ = some (.int .i64 x.ki) ∧ w'.cell? ⟨g, 1, none⟩ = some (.string x.nm) ∧ w'.cell? ⟨g, 2, none⟩ = some (.int .i64 x.fo) ∧ w'.cell? ⟨g, 3, none⟩ = some (.int .i64 x.ba) ∧ w'.cell? ⟨g, 4, none⟩ = some (.int .i64 x.bo) ∧ w'.cell? ⟨g, 5, none⟩ = some (.int .i64 x.un) ∧ w'.cell? ⟨g, 6, none⟩ = some (.int .i64 x.iv) ∧ w'.cell? ⟨g, 7, none⟩ = some (.string x.inh) := ⟨by rw [h.cell]; rfl, by rw [h.cell]; rfl, by rw [h.cell]; rfl, by rw [h.cell]; rfl, by rw [h.cell]; rfl, by rw [h.cell]; rfl, by rw [h.cell]; rfl, by rw [h.cell]; rfl⟩
theorem neq_look (w : World) (c1 c2 : Int) (b1 b2 b3 : Bool) : (binOp .neq 26 (.agg #[.int .i64 c1, .int .i64 c2, .bool b1, .bool b2, .bool b3]) (.agg #[.int .i64 c1, .int .i64 c2, .bool b1, .bool b2, .bool b3])).run Try.prog w = .ok (.bool false) w := by
  go_simp
set_option maxRecDepth 100000 in
set_option maxRecDepth 100000 in
set_option maxHeartbeats 16000000 in
theorem acts_walk {w : World} {A B : Option Addr} {n c m d : Nat} {la : List Fac} {l : List ByteArray} (h : Rd w (.slice A n c) 8 n (rows Fac.cells la)) (hq : Rd w (.slice B m d) 1 m (strs l)) : Calls Try.prog 9 #[.slice A n c, .slice B m d] w fun e w' => e = .returned (.bool true) ∧ Below w.heap.size w w' := by
  have hlen : l.length = m := by
    obtain ⟨_, _, _, h, _⟩ := hq
    simpa [strs] using h
  have HR := hide h
  have HQ0 := hide hq
  have HL := hide hlen
  have HLA := hide (rd_lenF h)
  clear h hq hlen
  go_enter Try.func9, Try.ntmps9
  go_wp2_with fail
  refine (Calls.mono (long_any HR.out)) ?_
  rintro r w3 ⟨rfl, rfl⟩
  cases hl : longF la with
  | true =>
    go_wp2_with fail
    refine Calls.mono (awake_any _) ?_
    rintro r w2 ⟨rfl, hb⟩
    have B := hide hb
    clear hb
    go_wp2
    go_ret
    exact ⟨rfl, B.out⟩
  | false =>
    have HN := hide (longF_no hl)
    clear hl
    by_cases h12 : 12 < m
    · have y1 : decide (12 < m) = true := by simpa using h12
      have y2 : decide ((12 : Int) < (m : Int)) = true := decide_eq_true (by omega)
      go_wp2_with fail
      refine Calls.mono (awake_any _) ?_
      rintro r w2 ⟨rfl, hb⟩
      have B := hide hb
      clear hb
      go_wp2
      go_ret
      exact ⟨rfl, B.out⟩
    have y1 : decide (12 < m) = false := by simpa using h12
    have y2 : decide ((12 : Int) < (m : Int)) = false := decide_eq_false (by omega)
    have HM := hide (show m ≤ 12 by omega)
    clear h12
    go_wp2_with fail
    refine Calls.mono (new_any (Own.refl w)) ?_
    rintro r w2 ⟨fb, mb, rfl, h2⟩
    have H2 := hide h2
    clear h2
    go_wp2_with fail
    refine Calls.mono (rnew_any (R := facHeapX fb mb [(dflt, attZero)] []) H2.out) ?_
    rintro r w3 ⟨rb, vN0, vA0, rfl, h3⟩
    have H3 := hide (bothX_new h3)
    clear h3 H2 y1 y2
    have hn60 : n ≤ 60 := by have := HN.out.1; have := HLA.out; omega
    go_wp2_with fail
    go_loopw [5, 7] (fun u t wr => ∃ (i fb mb : Nat) (D L : Fm) (vN vA : Value), u = .pointer (some ⟨fb, 0, none⟩) ∧ t = .int .i64 (i : Int) ∧ i ≤ n ∧ BothX w wr fb mb rb vN vA D L [] ∧ Rel D L ∧ GoodF D) (fun _ t _ => n - (intOf t).toNat)
    case atStart => exact ⟨0, fb, mb, _, _, _, _, rfl, rfl, Nat.zero_le _, H3.out, rel_new, good_new⟩
    case round =>
      obtain ⟨i, fb, mb, D, L, vN, vA, rfl, rfl, hi, hB, hRel, hG⟩ := hrel
      have H := hide hB
      have HRel := hide hRel
      have HG := hide hG
      have HGL := hide (hG.other hRel)
      clear hB hRel hG H3
      by_cases hlt : i < n
      · have y1 : decide (i < n) = true := by simpa using hlt
        have y2 : decide ((i : Int) < (n : Int)) = true := decide_eq_true (by omega)
        obtain ⟨x, hx⟩ : ∃ x, la[i]? = some x := ⟨_, List.getElem?_eq_getElem (by rw [HLA.out]; exact hlt)⟩
        have HS := hide (HN.out.2 x (List.mem_of_getElem? hx))
        obtain ⟨g, off, rfl, hat⟩ := HR.out.atF hx
        obtain ⟨p0, p1, p2, p3, p4, p5, p6, p7⟩ := hat.below H.out.fa.bel
        have HLT := hide hlt
        have HX := hide (H.out.box 56 x.cells.toArray)
        have HCE := hide (show ∀ (w' : World) (fb' mb' : Nat) (vN' vA' : Value) (D' L' : Fm), BothX w w' fb' mb' rb vN' vA' D' L' [(wr.heap.size, .cells 56 x.cells.toArray)] → w'.cell? ⟨wr.heap.size, 0, none⟩ = some (.int .i64 x.ki) ∧ w'.cell? ⟨wr.heap.size, 1, none⟩ = some (.string x.nm) ∧ w'.cell? ⟨wr.heap.size, 2, none⟩ = some (.int .i64 x.fo) ∧ w'.cell? ⟨wr.heap.size, 3, none⟩ = some (.int .i64 x.ba) ∧ w'.cell? ⟨wr.heap.size, 4, none⟩ = some (.int .i64 x.bo) ∧ w'.cell? ⟨wr.heap.size, 5, none⟩ = some (.int .i64 x.un) ∧ w'.cell? ⟨wr.heap.size, 6, none⟩ = some (.int .i64 x.iv) ∧ w'.cell? ⟨wr.heap.size, 7, none⟩ = some (.string x.inh) from fun w' fb' mb' vN' vA' D' L' hb => act_cells (hb.mem (List.mem_cons_self ..)))
        have HAL := hide (show ∀ (w' : World) (fb' mb' : Nat) (vN' vA' : Value) (D' L' : Fm), BothX w w' fb' mb' rb vN' vA' D' L' [(wr.heap.size, .cells 56 x.cells.toArray)] → Rel D' L' → GoodF D' → Calls Try.prog 33 #[.pointer (some ⟨fb', 0, none⟩), .pointer (some ⟨rb, 0, none⟩), .string x.nm] w' (fun e w'' => e = .returned (.bool true) ∧ Below w'.heap.size w' w'') from fun w' fb' mb' vN' vA' D' L' h1 h2 h3 => alike_any h1 h2 h3 x.nm)
        have HRE := hide (show ∀ (w' : World) (fb' mb' : Nat) (vN' vA' : Value) (D' L' : Fm) (X : Heap), BothX w w' fb' mb' rb vN' vA' D' L' X → Rel D' L' → GoodF D' → ∃ c1 c2 b1 b2 b3, ∀ w'', Below w'.heap.size w' w'' → Calls Try.prog 28 #[.pointer (some ⟨fb', 0, none⟩), .slice B m d] w'' (fun e w3 => e = .returned (.agg #[.int .i64 c1, .int .i64 c2, .bool b1, .bool b2, .bool b3]) ∧ Below w''.heap.size w'' w3) ∧ Calls Try.prog 34 #[.pointer (some ⟨rb, 0, none⟩), .slice B m d] w'' (fun e w3 => e = .returned (.agg #[.int .i64 c1, .int .i64 c2, .bool b1, .bool b2, .bool b3]) ∧ Below w''.heap.size w'' w3) from fun w' fb' mb' vN' vA' D' L' X h1 h2 h3 => by
          obtain ⟨c1, c2, b1, b2, b3, hlv⟩ : ∃ c1 c2 b1 b2 b3, lookV (over (accum D' l) (fullA D' dflt)) = .agg #[.int .i64 c1, .int .i64 c2, .bool b1, .bool b2, .bool b3] := ⟨_, _, _, _, _, rfl⟩
          refine ⟨c1, c2, b1, b2, b3, fun w'' hb => ?_⟩
          have h4 := h1.below hb
          have hr := HQ0.out.belowF h4.fa.bel
          obtain ⟨A', B', c', d', e1, e2, hin⟩ := h4.rf.rfIn
          have r1 := resolve_any h4.fa.fin h3.ch l _ (by rw [HL.out]; exact hr) (by rw [HL.out]; have := HM.out; omega)
          have r2 := rresolve_any hin (h3.other h2).le (h3.other h2) l hr (by have := HM.out; omega)
          rw [accum_same h2.lk, fullA_same h2.lk] at r2
          rw [hlv] at r1 r2
          exact ⟨r1, r2⟩)
        clear hx hat
        by_cases k0 : x.ki = 0
        · have z0 : decide (x.ki = 0) = true := by simpa using k0
          have z1 : (x.ki == 0) = true := by simpa using k0
          clear k0
          have HE := hide (defE_same HG.out.nd HRel.out x.nm x.at_)
          obtain ⟨e0, he0⟩ : ∃ e0, e0 = defE D x.nm x.at_ := ⟨_, rfl⟩
          have HF1 := hide (show ∀ (w' : World), BothX w w' fb mb rb vN vA D L [(wr.heap.size, .cells 56 x.cells.toArray)] → Calls Try.prog 19 #[.pointer (some ⟨fb, 0, none⟩), .string x.nm, x.at_.val] w' (fun e w'' => e = .returned (.int .i64 e0) ∧ BothX w w'' fb mb rb vN vA (defN D x.nm x.at_) L [(wr.heap.size, .cells 56 x.cells.toArray)]) from fun w' hb => by
            rw [he0]
            exact fdef_bothX hb HG.out.ch x.nm x.at_ (by have := HS.out.1; omega) (by show x.inh.size < _; have := HS.out.2; omega))
          have HF2 := hide (show ∀ (w' : World), BothX w w' fb mb rb vN vA (defN D x.nm x.at_) L [(wr.heap.size, .cells 56 x.cells.toArray)] → Calls Try.prog 20 #[.pointer (some ⟨rb, 0, none⟩), .string x.nm, x.at_.val] w' (fun e w'' => e = .returned (.int .i64 e0) ∧ ∃ vN' vA' L', BothX w w'' fb mb rb vN' vA' (defN D x.nm x.at_) L' [(wr.heap.size, .cells 56 x.cells.toArray)] ∧ Rel (defN D x.nm x.at_) L') from fun w' hb => by
            rw [he0, HE.out]
            refine (rdef_bothX hb HGL.out x.nm x.at_ (by have := HS.out.1; omega) (by show x.inh.size < _; have := HS.out.2; omega)).mono ?_
            rintro e w'' ⟨rfl, vN', vA', L', h1, h2⟩
            exact ⟨rfl, vN', vA', L', h1, Rel.def HG.out HRel.out h2⟩)
          have HG2 := hide (HG.out.defN x.nm x.at_)
          have B0 := hide (HX.out.below (Below.refl _ _).drew)
          obtain ⟨q0, q1, q2, q3, q4, q5, q6, q7⟩ := HCE.out _ _ _ _ _ _ _ HX.out
          clear he0
          go_wp2_with fail
          go_region_held3 (fun w' => w'.cell? ⟨wr.heap.size, 0, none⟩ = some (.int .i64 x.ki) ∧ w'.cell? ⟨wr.heap.size, 1, none⟩ = some (.string x.nm) ∧ w'.cell? ⟨wr.heap.size, 2, none⟩ = some (.int .i64 x.fo) ∧ w'.cell? ⟨wr.heap.size, 3, none⟩ = some (.int .i64 x.ba) ∧ w'.cell? ⟨wr.heap.size, 4, none⟩ = some (.int .i64 x.bo) ∧ w'.cell? ⟨wr.heap.size, 5, none⟩ = some (.int .i64 x.un) ∧ w'.cell? ⟨wr.heap.size, 6, none⟩ = some (.int .i64 x.iv) ∧ w'.cell? ⟨wr.heap.size, 7, none⟩ = some (.string x.inh))
            (first | exact HCE.out _ _ _ _ _ _ _ B0.out | exact HCE.out _ _ _ _ _ _ _ B1.out | exact HCE.out _ _ _ _ _ _ _ B2.out)
            ((first
              | (go_at_call 19; (with_reducible refine Calls.mono (HF1.out _ B0.out) ?_); rintro r w4 ⟨rfl, hb⟩; have B1 := hide hb; clear hb)
              | (go_at_call 20; (with_reducible refine Calls.mono (HF2.out _ B1.out) ?_); rintro r w5 ⟨rfl, vN', vA', L', hb, hr⟩; have B2 := hide hb; have HRel2 := hide hr; clear hb hr)))
          clear q0 q1 q2 q3 q4 q5 q6 q7 p0 p1 p2 p3 p4 p5 p6 p7
          have HT := hide B2.out
          obtain ⟨t0, t1, t2, t3, t4, t5, t6, t7⟩ := HCE.out _ _ _ _ _ _ _ HT.out
          obtain ⟨c1, c2, b1, b2, b3, hre⟩ := HRE.out _ _ _ _ _ _ _ _ HT.out HRel2.out HG2.out
          have HRV := hide hre
          have e3 := fun w => neq_look w c1 c2 b1 b2 b3
          clear hre
          go_wp2_with fail
          refine Calls.mono (HAL.out _ _ _ _ _ _ _ HT.out HRel2.out HG2.out) ?_
          rintro r w7 ⟨rfl, hb⟩
          have C1 := hide hb
          clear hb
          go_wp2_with fail
          refine Calls.mono (HRV.out _ C1.out).1 ?_
          rintro r w8 ⟨rfl, hb⟩
          have C2 := hide (C1.out.trans (hb.mono C1.out.size))
          clear hb
          go_wp2_with fail
          refine Calls.mono (HRV.out _ C2.out).2 ?_
          rintro r w9 ⟨rfl, hb⟩
          have C3 := hide (C2.out.trans (hb.mono C2.out.size))
          clear hb
          have HZ := hide ((HT.out.below C3.out).unbox)
          go_wp2
          go_roundw
          case rel => exact ⟨i + 1, _, _, _, _, _, _, rfl, by go_num, HLT.out, HZ.out, HRel2.out, HG2.out⟩
          case measure => have := HLT.out; simp [intOf]; omega
        · have z0 : decide (x.ki = 0) = false := by simpa using k0
          have z1 : (x.ki == 0) = false := by simpa using k0
          have K0 := hide k0
          clear k0
          by_cases k1 : x.ki = 1
          · have z2 : decide (x.ki = 1) = true := by simpa using k1
            have z3 : (x.ki == 1) = true := by simpa using k1
            have z4 : (x.ki == 0) = false := by rw [beq_eq_false_iff_ne]; exact K0.out
            clear k1
            obtain ⟨e0, he0⟩ : ∃ e0, e0 = dropE D x.nm := ⟨_, rfl⟩
            have HF1 := hide (show ∀ (w' : World), BothX w w' fb mb rb vN vA D L [(wr.heap.size, .cells 56 x.cells.toArray)] → Calls Try.prog 21 #[.pointer (some ⟨fb, 0, none⟩), .string x.nm] w' (fun e w'' => e = .returned (.int .i64 e0) ∧ BothX w w'' fb mb rb vN vA (dropN D x.nm) L [(wr.heap.size, .cells 56 x.cells.toArray)]) from fun w' hb => by
              rw [he0]
              exact fdrop_bothX hb HG.out.d x.nm)
            have HF2 := hide (show ∀ (w' : World), BothX w w' fb mb rb vN vA (dropN D x.nm) L [(wr.heap.size, .cells 56 x.cells.toArray)] → Calls Try.prog 22 #[.pointer (some ⟨rb, 0, none⟩), .string x.nm] w' (fun e w'' => e = .returned (.int .i64 e0) ∧ ∃ vN' vA', BothX w w'' fb mb rb vN' vA' (dropN D x.nm) (dropN L x.nm) [(wr.heap.size, .cells 56 x.cells.toArray)]) from fun w' hb => by
              rw [he0, dropE_same HG.out.nd HRel.out]
              exact rdrop_bothX hb HGL.out x.nm)
            have HRel2 := hide (HRel.out.drop HG.out x.nm)
            have HG2 := hide (HG.out.dropN x.nm)
            have B0 := hide (HX.out.below (Below.refl _ _).drew)
            obtain ⟨q0, q1, q2, q3, q4, q5, q6, q7⟩ := HCE.out _ _ _ _ _ _ _ HX.out
            clear he0
            go_wp2_with fail
            go_region_held3 (fun w' => w'.cell? ⟨wr.heap.size, 0, none⟩ = some (.int .i64 x.ki) ∧ w'.cell? ⟨wr.heap.size, 1, none⟩ = some (.string x.nm) ∧ w'.cell? ⟨wr.heap.size, 2, none⟩ = some (.int .i64 x.fo) ∧ w'.cell? ⟨wr.heap.size, 3, none⟩ = some (.int .i64 x.ba) ∧ w'.cell? ⟨wr.heap.size, 4, none⟩ = some (.int .i64 x.bo) ∧ w'.cell? ⟨wr.heap.size, 5, none⟩ = some (.int .i64 x.un) ∧ w'.cell? ⟨wr.heap.size, 6, none⟩ = some (.int .i64 x.iv) ∧ w'.cell? ⟨wr.heap.size, 7, none⟩ = some (.string x.inh))
              (first | exact HCE.out _ _ _ _ _ _ _ B0.out | exact HCE.out _ _ _ _ _ _ _ B1.out | exact HCE.out _ _ _ _ _ _ _ B2.out)
              ((first
                | (go_at_call 21; (with_reducible refine Calls.mono (HF1.out _ B0.out) ?_); rintro r w4 ⟨rfl, hb⟩; have B1 := hide hb; clear hb)
                | (go_at_call 22; (with_reducible refine Calls.mono (HF2.out _ B1.out) ?_); rintro r w5 ⟨rfl, vN', vA', hb⟩; have B2 := hide hb; clear hb)))
            clear q0 q1 q2 q3 q4 q5 q6 q7 p0 p1 p2 p3 p4 p5 p6 p7
            have HT := hide B2.out
            obtain ⟨t0, t1, t2, t3, t4, t5, t6, t7⟩ := HCE.out _ _ _ _ _ _ _ HT.out
            obtain ⟨c1, c2, b1, b2, b3, hre⟩ := HRE.out _ _ _ _ _ _ _ _ HT.out HRel2.out HG2.out
            have HRV := hide hre
            have e3 := fun w => neq_look w c1 c2 b1 b2 b3
            clear hre
            go_wp2_with fail
            refine Calls.mono (HAL.out _ _ _ _ _ _ _ HT.out HRel2.out HG2.out) ?_
            rintro r w7 ⟨rfl, hb⟩
            have C1 := hide hb
            clear hb
            go_wp2_with fail
            refine Calls.mono (HRV.out _ C1.out).1 ?_
            rintro r w8 ⟨rfl, hb⟩
            have C2 := hide (C1.out.trans (hb.mono C1.out.size))
            clear hb
            go_wp2_with fail
            refine Calls.mono (HRV.out _ C2.out).2 ?_
            rintro r w9 ⟨rfl, hb⟩
            have C3 := hide (C2.out.trans (hb.mono C2.out.size))
            clear hb
            have HZ := hide ((HT.out.below C3.out).unbox)
            go_wp2
            go_roundw
            case rel => exact ⟨i + 1, _, _, _, _, _, _, rfl, by go_num, HLT.out, HZ.out, HRel2.out, HG2.out⟩
            case measure => have := HLT.out; simp [intOf]; omega
          · have z2 : decide (x.ki = 1) = false := by simpa using k1
            have z3 : (x.ki == 1) = false := by simpa using k1
            have K1 := hide k1
            clear k1
            by_cases k2 : x.ki = 2
            · have z4 : decide (x.ki = 2) = true := by simpa using k2
              have z5 : (x.ki == 2) = true := by simpa using k2
              clear k2
              obtain ⟨q0, q1, q2, q3, q4, q5, q6, q7⟩ := HCE.out _ _ _ _ _ _ _ HX.out
              go_wp2_with fail
              refine Calls.mono (copy_bothX HX.out) ?_
              rintro r w4 ⟨fb', mb', rfl, hb⟩
              have B1 := hide hb
              clear hb q0 q1 q2 q3 q4 q5 q6 q7 p0 p1 p2 p3 p4 p5 p6 p7
              go_wp2_with fail
              refine Calls.mono (odef_oldX B1.out HG.out.ch ⟨#[111, 118, 101, 114]⟩ ⟨0, 0, 1, 0, 0, ⟨#[]⟩⟩ (by decide) (by decide)) ?_
              rintro r w5 ⟨rfl, hb⟩
              have B2 := hide hb
              have HG3 := hide (HG.out.defN ⟨#[111, 118, 101, 114]⟩ ⟨0, 0, 1, 0, 0, ⟨#[]⟩⟩)
              clear hb
              go_wp2_with fail
              refine Calls.mono (odef_oldX B2.out HG3.out.ch dflt ⟨9, 0, 0, 0, 0, ⟨#[]⟩⟩ (by decide) (by decide)) ?_
              rintro r w6 ⟨rfl, hb⟩
              have B3 := hide hb.both
              clear hb
              have HT := hide B3.out
              obtain ⟨t0, t1, t2, t3, t4, t5, t6, t7⟩ := HCE.out _ _ _ _ _ _ _ HT.out
              obtain ⟨c1, c2, b1, b2, b3, hre⟩ := HRE.out _ _ _ _ _ _ _ _ HT.out HRel.out HG.out
              have HRV := hide hre
              have e3 := fun w => neq_look w c1 c2 b1 b2 b3
              clear hre
              go_wp2_with fail
              refine Calls.mono (HAL.out _ _ _ _ _ _ _ HT.out HRel.out HG.out) ?_
              rintro r w7 ⟨rfl, hb⟩
              have C1 := hide hb
              clear hb
              go_wp2_with fail
              refine Calls.mono (HRV.out _ C1.out).1 ?_
              rintro r w8 ⟨rfl, hb⟩
              have C2 := hide (C1.out.trans (hb.mono C1.out.size))
              clear hb
              go_wp2_with fail
              refine Calls.mono (HRV.out _ C2.out).2 ?_
              rintro r w9 ⟨rfl, hb⟩
              have C3 := hide (C2.out.trans (hb.mono C2.out.size))
              clear hb
              have HZ := hide ((HT.out.below C3.out).unbox)
              go_wp2
              go_roundw
              case rel => exact ⟨i + 1, _, _, _, _, _, _, rfl, by go_num, HLT.out, HZ.out, HRel.out, HG.out⟩
              case measure => have := HLT.out; simp [intOf]; omega
            · have z4 : decide (x.ki = 2) = false := by simpa using k2
              have z5 : (x.ki == 2) = false := by simpa using k2
              have K2 := hide k2
              clear k2
              obtain ⟨q0, q1, q2, q3, q4, q5, q6, q7⟩ := HCE.out _ _ _ _ _ _ _ HX.out
              have HT := hide HX.out
              obtain ⟨t0, t1, t2, t3, t4, t5, t6, t7⟩ := HCE.out _ _ _ _ _ _ _ HT.out
              obtain ⟨c1, c2, b1, b2, b3, hre⟩ := HRE.out _ _ _ _ _ _ _ _ HT.out HRel.out HG.out
              have HRV := hide hre
              have e3 := fun w => neq_look w c1 c2 b1 b2 b3
              clear hre
              go_wp2_with fail
              refine Calls.mono (HAL.out _ _ _ _ _ _ _ HT.out HRel.out HG.out) ?_
              rintro r w7 ⟨rfl, hb⟩
              have C1 := hide hb
              clear hb
              go_wp2_with fail
              refine Calls.mono (HRV.out _ C1.out).1 ?_
              rintro r w8 ⟨rfl, hb⟩
              have C2 := hide (C1.out.trans (hb.mono C1.out.size))
              clear hb
              go_wp2_with fail
              refine Calls.mono (HRV.out _ C2.out).2 ?_
              rintro r w9 ⟨rfl, hb⟩
              have C3 := hide (C2.out.trans (hb.mono C2.out.size))
              clear hb
              have HZ := hide ((HT.out.below C3.out).unbox)
              go_wp2
              go_roundw
              case rel => exact ⟨i + 1, _, _, _, _, _, _, rfl, by go_num, HLT.out, HZ.out, HRel.out, HG.out⟩
              case measure => have := HLT.out; simp [intOf]; omega
      · have y1 : decide (i < n) = false := by simpa using hlt
        have y2 : decide ((i : Int) < (n : Int)) = false := decide_eq_false (by omega)
        have BL := hide H.out.fa.bel
        go_wp2_with fail
        refine Calls.mono (awake_any _) ?_
        rintro r w5 ⟨rfl, hb⟩
        have BZ := hide (BL.out.trans (hb.mono BL.out.size))
        clear hb
        go_wp2
        go_ret
        exact ⟨rfl, BZ.out⟩
end Go.Proofs.Ytmjogpacajbngaa
