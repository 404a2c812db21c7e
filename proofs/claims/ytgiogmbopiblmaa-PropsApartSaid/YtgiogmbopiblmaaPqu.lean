/- PropsApart: the walk. No condition but those written. -/
import Derived.Test.YtgiogmbopiblmaaPqt
namespace Go.Proofs.Ytgiogmbopiblmaa
open Go.RowKit

theorem acts_ok_one {w : World} {a : Ac} (h : SnRd w a.sv a.S) (hl : lightL [a] = true) : ActOk w a := by
  unfold lightL lightA lightH at hl
  simp only [List.all_cons, List.all_nil, Bool.and_true, Bool.and_eq_true, List.all_eq_true, decide_eq_true_eq] at hl
  refine ⟨h, hl.1.1.2, fun s hs => ?_⟩
  have h2 := hl.1.2 s hs
  unfold lightS at h2
  simp only [Bool.and_eq_true, decide_eq_true_eq] at h2
  exact h2.2
theorem one_act {w0 w : World} {a : Ac} (h : SnRd w0 a.sv a.S) (hb : Below w0.heap.size w0 w) : ActsRd (w.alloc (.cells #[.int .i64 a.kd, .int .i64 a.fr, .int .i64 a.en, .int .i64 a.nm, .int .i64 a.n, .int .i64 a.k, .int .i64 a.v, a.sv] 49)) (.slice (some ⟨w.heap.size, 0, none⟩) 1 1) [a] :=
  ⟨rd_elem w 49 8 a.cells rfl, fun x hx => by
    simp only [List.mem_singleton] at hx
    subst hx
    exact h.below (hb.trans ((below_box w _).mono hb.size))⟩
/-- Two objects of the law's own, with nothing in common. -/
structure Duo (W w : World) (b c : Nat) (P Q : List Pc) : Prop where
  ex : ∃ sv L sc M, PropsAt w b sv L ∧ pcs L = P ∧ PropsAt w c sc M ∧ pcs M = Q ∧ (∀ g, foot b sv g → W.heap.size ≤ g) ∧ (∀ g, foot c sc g → W.heap.size ≤ g) ∧ ∀ g, foot b sv g → ¬ foot c sc g
  bel : Below W.heap.size W w
theorem Duo.symm {W w : World} {b c : Nat} {P Q : List Pc} (h : Duo W w b c P Q) : Duo W w c b Q P := by
  obtain ⟨⟨sv, L, sc, M, h1, h2, h3, h4, h5, h6, h7⟩, h8⟩ := h
  exact ⟨⟨sc, M, sv, L, h3, h4, h1, h2, h6, h5, fun g hg hf => h7 g hf hg⟩, h8⟩
theorem Duo.one {W w : World} {b c : Nat} {P Q : List Pc} (h : Duo W w b c P Q) : Obj W w b P := by
  obtain ⟨⟨sv, L, sc, M, h1, h2, h3, h4, h5, h6, h7⟩, h8⟩ := h
  exact ⟨⟨sv, L, h1, h2, h5⟩, h8⟩
theorem Duo.below {W w w' : World} {b c : Nat} {P Q : List Pc} (h : Duo W w b c P Q) (hb : Below w.heap.size w w') : Duo W w' b c P Q := by
  obtain ⟨⟨sv, L, sc, M, h1, h2, h3, h4, h5, h6, h7⟩, h8⟩ := h
  exact ⟨⟨sv, L, sc, M, h1.below hb, h2, h3.below hb, h4, h5, h6, h7⟩, h8.trans (hb.mono h8.size)⟩
theorem duo_do {W w : World} {b c : Nat} {P Q : List Pc} (h : Duo W w b c P Q) (hg : Good P 64) (a : Ac) (ha : ActOk w a) :
    Calls Try.prog 28 #[.pointer (some ⟨b, 0, none⟩), .agg #[.int .i64 a.kd, .int .i64 a.fr, .int .i64 a.en, .int .i64 a.nm, .int .i64 a.n, .int .i64 a.k, .int .i64 a.v, a.sv]] w fun e w' => e = .returned (.int .i64 (doE P a)) ∧ Duo W w' b c (doQ P a) Q ∧ KeepT isCode w w' := by
  obtain ⟨⟨sv, L, sc, M, h1, h2, h3, h4, h5, h6, h7⟩, h8⟩ := h
  refine (do_any h1 h2 hg a ha).mono ?_
  rintro e w' ⟨rfl, hm⟩
  obtain ⟨sv', L', g1, g2, g3, g4⟩ := hm
  have hft : ∀ g, foot b sv' g → foot b sv g ∨ w.heap.size ≤ g := by
    rintro g (rfl | hg)
    · exact .inl (.inl rfl)
    · exact (g4 g hg).elim (fun e => .inl (.inr e)) .inr
  refine ⟨rfl, ⟨⟨sv', L', sc, M, g1, g2, h3.frame g3 (fun g hg hf => h7 g hf hg) h1.calm, h4, fun g hg => ?_, h6, fun g hg hf => ?_⟩, h8.trans (g3.below h8.size h5)⟩, only_keep h1 g3⟩
  · exact (hft g hg).elim (h5 g) (fun e => Nat.le_trans h8.size e)
  · have := h3.footlt g hf
    exact (hft g hg).elim (fun e => h7 g e hf) (fun e => by omega)
theorem Duo.make {W w w' : World} {b c : Nat} {sv sc : Value} {L : List (Pc × Value)} {P : List Pc} (h1 : PropsAt w b sv L) (h2 : pcs L = P) (h3 : ∀ g, foot b sv g → W.heap.size ≤ g) (h4 : Below W.heap.size W w) (h5 : PropsAt w' c sc L) (h6 : ∀ g, foot c sc g → w.heap.size ≤ g) (hb : Below w.heap.size w w') : Duo W w' b c P P :=
  ⟨⟨sv, L, sc, L, h1.below hb, h2, h5, h2, h3, fun g hg => Nat.le_trans h4.size (h6 g hg), fun g hg hf => by
    have := h1.footlt g hg
    have := h6 g hf
    omega⟩, h4.trans (hb.mono h4.size)⟩
theorem sp_fit {P : List Pc} (hg : Good P 64) {S : List (Sn × Value)} {x y : Int} (h : sns S = spP P x y 0) : S.length ≤ 1000000 ∧ ∀ s ∈ S, s.1.pr.length ≤ 1000000 := by
  refine ⟨?_, fun s hs => ?_⟩
  · have := cut_len hg x y 0
    rw [← h, sns_len] at this
    omega
  · have := cut_pr hg x y 0 s.1 (by rw [← h]; exact List.mem_map_of_mem hs)
    omega
set_option maxRecDepth 100000 in
set_option maxHeartbeats 32000000 in
theorem apart_walk (l : List Ac) (v : Value) (a : Ac) (w : World) (h : ActsRd w v l) (hm : l.length ≤ maxLen) (ha : SnRd w a.sv a.S) : Calls Try.prog 9 #[v, .agg #[.int .i64 a.kd, .int .i64 a.fr, .int .i64 a.en, .int .i64 a.nm, .int .i64 a.n, .int .i64 a.k, .int .i64 a.v, a.sv]] w fun e w' => e = .returned (.bool true) ∧ Below w.heap.size w w' := by
  obtain ⟨A, c, rfl, _⟩ := id h.row
  have HLA := hide (fun (w1 : World) (hb : Below w.heap.size w w1) => light_any l _ w1 (h.sub hb) hm)
  have HLB := hide (fun (w1 : World) (hb : Below w.heap.size w w1) => light_any [a] _ _ (one_act ha hb) (by unfold maxLen; simp))
  obtain ⟨nn, hnn⟩ : ∃ nn, nn = l.length := ⟨_, rfl⟩
  have hl2 : (nn : Int) ≤ 9223372036854775807 := by unfold maxLen at hm; omega
  have HAR := hide h
  have HA0 := hide (fun (hl : lightL l = true) => acts_ok h hl)
  have HAB := hide (fun (hl : lightL [a] = true) => (show ActOk w a from acts_ok_one ha hl))
  rw [← hnn] at HAR HLA ⊢
  have HNN := hide hnn
  obtain ⟨AS, cS, hsv, _⟩ := id ha.row
  have HAS := hide ha
  rw [hsv] at HLB ⊢
  have HB0 := hide (below_box w (.cells #[.int .i64 a.kd, .int .i64 a.fr, .int .i64 a.en, .int .i64 a.nm, .int .i64 a.n, .int .i64 a.k, .int .i64 a.v, .slice AS a.S.length cS] 49))
  have HBK := hide (Blk.new w 49 #[.int .i64 a.kd, .int .i64 a.fr, .int .i64 a.en, .int .i64 a.nm, .int .i64 a.n, .int .i64 a.k, .int .i64 a.v, .slice AS a.S.length cS])
  have HSV := hide hsv
  clear h hm hnn ha hsv
  go_enter Try.func9, Try.ntmps9
  go_wp2_with fail
  refine (Calls.mono (lives_any _)) ?_
  rintro r w1 ⟨rfl, b1⟩
  have B1 := hide (HB0.out.trans (b1.mono HB0.out.size))
  have HK1 := hide (HBK.out.below b1 HBK.out.lt)
  have k0 := HK1.out.cell 0
  have k1 := HK1.out.cell 1
  have k2 := HK1.out.cell 2
  have k3 := HK1.out.cell 3
  have k4 := HK1.out.cell 4
  have k5 := HK1.out.cell 5
  have k6 := HK1.out.cell 6
  have k7 := HK1.out.cell 7
  clear b1
  cases hL : lightL l with
  | false =>
    have HL1 := hide (show Calls Try.prog 27 #[.slice A nn c] w1 (fun e w' => e = .returned (.bool false) ∧ w1 = w') from by have := HLA.out w1 B1.out; rw [hL] at this; exact this)
    clear hL
    go_wp2_with (go_at_call 27; (with_reducible refine Calls.mono HL1.out ?_); rintro r w2 ⟨rfl, rfl⟩)
    go_ret
    exact ⟨rfl, B1.out⟩
  | true =>
    have HL1 := hide (show Calls Try.prog 27 #[.slice A nn c] w1 (fun e w' => e = .returned (.bool true) ∧ w1 = w') from by have := HLA.out w1 B1.out; rw [hL] at this; exact this)
    have HAO := hide (HA0.out hL)
    clear hL
    cases hM : lightL [a] with
    | false =>
      have HL2 := hide (show Calls Try.prog 27 #[.slice (some ⟨w1.heap.size, 0, none⟩) 1 1] (w1.alloc (.cells #[.int .i64 a.kd, .int .i64 a.fr, .int .i64 a.en, .int .i64 a.nm, .int .i64 a.n, .int .i64 a.k, .int .i64 a.v, .slice AS a.S.length cS] 49)) (fun e w' => e = .returned (.bool false) ∧ (w1.alloc (.cells #[.int .i64 a.kd, .int .i64 a.fr, .int .i64 a.en, .int .i64 a.nm, .int .i64 a.n, .int .i64 a.k, .int .i64 a.v, .slice AS a.S.length cS] 49)) = w') from by have := HLB.out w1 B1.out; rw [hM] at this; exact this)
      clear hM
      go_wp2_with (first | (go_at_call 27; (with_reducible refine Calls.mono HL1.out ?_); rintro r w2 ⟨rfl, rfl⟩) | (go_at_call 27; (with_reducible refine Calls.mono HL2.out ?_); rintro r w2 ⟨rfl, rfl⟩))
      go_ret
      exact ⟨rfl, B1.out.trans ((below_box w1 _).mono B1.out.size)⟩
    | true =>
      have HL2 := hide (show Calls Try.prog 27 #[.slice (some ⟨w1.heap.size, 0, none⟩) 1 1] (w1.alloc (.cells #[.int .i64 a.kd, .int .i64 a.fr, .int .i64 a.en, .int .i64 a.nm, .int .i64 a.n, .int .i64 a.k, .int .i64 a.v, .slice AS a.S.length cS] 49)) (fun e w' => e = .returned (.bool true) ∧ (w1.alloc (.cells #[.int .i64 a.kd, .int .i64 a.fr, .int .i64 a.en, .int .i64 a.nm, .int .i64 a.n, .int .i64 a.k, .int .i64 a.v, .slice AS a.S.length cS] 49)) = w') from by have := HLB.out w1 B1.out; rw [hM] at this; exact this)
      have HAK := hide (HAB.out hM)
      clear hM
      go_upto_region 5 with (first | (go_at_call 27; (with_reducible refine Calls.mono HL1.out ?_); rintro r w2 ⟨rfl, rfl⟩) | (go_at_call 27; (with_reducible refine Calls.mono HL2.out ?_); rintro r w2 ⟨rfl, rfl⟩))
      have HB2 := hide (B1.out.trans ((below_box w1 (.cells #[.int .i64 a.kd, .int .i64 a.fr, .int .i64 a.en, .int .i64 a.nm, .int .i64 a.n, .int .i64 a.k, .int .i64 a.v, .slice AS a.S.length cS] 49)).mono B1.out.size))
      have HK2 := hide (HK1.out.below (below_box w1 (.cells #[.int .i64 a.kd, .int .i64 a.fr, .int .i64 a.en, .int .i64 a.nm, .int .i64 a.n, .int .i64 a.k, .int .i64 a.v, .slice AS a.S.length cS] 49)) HK1.out.lt)
      obtain ⟨w2, hw2⟩ : ∃ x : World, x = w1.alloc (.cells #[.int .i64 a.kd, .int .i64 a.fr, .int .i64 a.en, .int .i64 a.nm, .int .i64 a.n, .int .i64 a.k, .int .i64 a.v, .slice AS a.S.length cS] 49) := ⟨_, rfl⟩
      rw [← hw2] at HB2 HK2 ⊢
      clear hw2 HL1 HL2 HLA HLB HA0 HAB k0 k1 k2 k3 k4 k5 k6 k7
      have k1 := HK2.out.cell 1
      have k3 := HK2.out.cell 3
      have HGN := hide (Get_nil w2 a.fr a.nm)
      go_upto_region 7 with (go_at_call 21; (with_reducible refine Calls.mono HGN.out ?_); rintro r w3 ⟨rfl, b3⟩; have B3 := hide b3; clear b3)
      have HB3 := hide ((HB2.out.trans (B3.out.mono HB2.out.size)).trans ((below_box w3 (.cells #[.int .i64 0, .int .i64 0] 29)).mono (HB2.out.trans (B3.out.mono HB2.out.size)).size))
      have HK3 := hide ((HK2.out.below B3.out HK2.out.lt).below (below_box w3 (.cells #[.int .i64 0, .int .i64 0] 29)) (HK2.out.below B3.out HK2.out.lt).lt)
      obtain ⟨w4, hw4⟩ : ∃ x : World, x = w3.alloc (.cells #[.int .i64 0, .int .i64 0] 29) := ⟨_, rfl⟩
      rw [← hw4] at HB3 HK3 ⊢
      clear hw4 HGN k1 k3
      have HKC := hide (fun (x : World) (hb : Blk x w.heap.size 49 #[.int .i64 a.kd, .int .i64 a.fr, .int .i64 a.en, .int .i64 a.nm, .int .i64 a.n, .int .i64 a.k, .int .i64 a.v, .slice AS a.S.length cS]) => (show (fun x => x.cell? ⟨w.heap.size, 0, none⟩ = some (.int .i64 a.kd) ∧ x.cell? ⟨w.heap.size, 1, none⟩ = some (.int .i64 a.fr) ∧ x.cell? ⟨w.heap.size, 2, none⟩ = some (.int .i64 a.en) ∧ x.cell? ⟨w.heap.size, 3, none⟩ = some (.int .i64 a.nm) ∧ x.cell? ⟨w.heap.size, 4, none⟩ = some (.int .i64 a.n) ∧ x.cell? ⟨w.heap.size, 5, none⟩ = some (.int .i64 a.k) ∧ x.cell? ⟨w.heap.size, 6, none⟩ = some (.int .i64 a.v) ∧ x.cell? ⟨w.heap.size, 7, none⟩ = some (.slice AS a.S.length cS)) x from ⟨hb.cell 0, hb.cell 1, hb.cell 2, hb.cell 3, hb.cell 4, hb.cell 5, hb.cell 6, hb.cell 7⟩))
      have HDO := hide (fun (x : World) (hb : Below w.heap.size w x) => (show Calls Try.prog 28 #[.pointer none, .agg #[.int .i64 a.kd, .int .i64 a.fr, .int .i64 a.en, .int .i64 a.nm, .int .i64 a.n, .int .i64 a.k, .int .i64 a.v, .slice AS a.S.length cS]] x (fun e w' => e = .returned (.int .i64 1) ∧ Below x.heap.size x w') from by
        have := do_nil x a (HAK.out.below hb)
        rw [HSV.out] at this
        exact this))
      have B11 := hide HK3.out.drew
      have E11 := hide HB3.out.drew
      go_region_held3 ((fun x => x.cell? ⟨w.heap.size, 0, none⟩ = some (.int .i64 a.kd) ∧ x.cell? ⟨w.heap.size, 1, none⟩ = some (.int .i64 a.fr) ∧ x.cell? ⟨w.heap.size, 2, none⟩ = some (.int .i64 a.en) ∧ x.cell? ⟨w.heap.size, 3, none⟩ = some (.int .i64 a.nm) ∧ x.cell? ⟨w.heap.size, 4, none⟩ = some (.int .i64 a.n) ∧ x.cell? ⟨w.heap.size, 5, none⟩ = some (.int .i64 a.k) ∧ x.cell? ⟨w.heap.size, 6, none⟩ = some (.int .i64 a.v) ∧ x.cell? ⟨w.heap.size, 7, none⟩ = some (.slice AS a.S.length cS)))
        (first | exact HKC.out _ B11.out | exact HKC.out _ B12.out | exact HKC.out _ B13.out | exact HKC.out _ B16.out | exact HKC.out _ B17.out)
        ((first
          | (go_at_call 28; (with_reducible refine Calls.mono (HDO.out _ E11.out) ?_); rintro r w12 ⟨rfl, b12⟩; have B12 := hide (B11.out.below b12 B11.out.lt); have E12 := hide (E11.out.trans (b12.mono E11.out.size)); clear b12)
          | (go_at_call 16; (with_reducible refine Calls.mono (List_nil _ _) ?_); rintro r w13 ⟨A13, c13, rfl, b13⟩; have B13 := hide (B12.out.below b13 B12.out.lt); have E13 := hide (E12.out.trans (b13.mono E12.out.size)); clear b13)
          | (go_at_call 18; (with_reducible refine Calls.mono (Spans_nil _ _ _) ?_); rintro r w14 ⟨rfl, rfl⟩)
          | (go_at_call 20; (with_reducible refine Calls.mono (Cut_nil _ _ _) ?_); rintro r w14 ⟨rfl, rfl⟩)
          | (go_at_call 22; (with_reducible refine Calls.mono (Next_nil _ _ _) ?_); rintro r w16 ⟨rfl, b16⟩; have B16 := hide (B13.out.below b16 B13.out.lt); have E16 := hide (E13.out.trans (b16.mono E13.out.size)); clear b16)
          | (go_at_call 30; (with_reducible refine Calls.mono (NextOf_nil _ _ _ _) ?_); rintro r w17 ⟨rfl, b17⟩; have B17 := hide (B16.out.below b17 B16.out.lt); have E17 := hide (E16.out.trans (b17.mono E16.out.size)); clear b17)
          | (go_at_call 41; (with_reducible refine Calls.mono (Copy_nil _) ?_); rintro r w18 ⟨rfl, rfl⟩)))
      go_wp2_with fail
      refine (Calls.mono (obj_new E17.out)) ?_
      rintro r w9 ⟨b, rfl, h2, b2⟩
      have H2 := hide h2
      have HK9 := hide (B17.out.below b2 B17.out.lt)
      clear h2 b2
      go_wp2
      go_loopw [9] (fun iv wr => ∃ k : Nat, iv = .int .i64 (k : Int) ∧ k ≤ nn ∧ Obj w wr b (doAll (l.take k)) ∧ Blk wr w.heap.size 49 #[.int .i64 a.kd, .int .i64 a.fr, .int .i64 a.en, .int .i64 a.nm, .int .i64 a.n, .int .i64 a.k, .int .i64 a.v, .slice AS a.S.length cS]) (fun iv _ => nn - (intOf iv).toNat)
      case atStart => exact ⟨0, rfl, Nat.zero_le _, H2.out, HK9.out⟩
      case round =>
        obtain ⟨k, rfl, hk, hob, hbq⟩ := hrel
        have HBQ := hide hbq
        clear hbq
        have HO := hide hob
        by_cases hlt : k < nn
        · have u1 : decide (k < nn) = true := by simpa using hlt
          have u2 : decide ((k : Int) < (nn : Int)) = true := by simp; omega
          have u3 : (k : Int) < (nn : Int) := by omega
          obtain ⟨y, hx⟩ : ∃ a, l[k]? = some a := ⟨_, List.getElem?_eq_getElem (by rw [← HNN.out]; exact hlt)⟩
          have har := HAR.out.sub hob.bel
          have hao := (HAO.out y (List.mem_of_getElem? hx)).below hob.bel
          obtain ⟨g, off, rfl, c0, c1, c2, c3, c4, c5, c6, c7⟩ := har.at_ HNN.out hx
          obtain ⟨AY, cY, hsv, _⟩ := id hao.rd.row
          have HD := hide (obj_do hob (doAll_good _) y hao)
          rw [hsv] at c7 HD
          have HX := hide hx
          have HLT := hide hlt
          clear hob hlt hx har hao hk
          clear hsv
          go_wp2_with (go_at_call 28; (with_reducible refine Calls.mono HD.out ?_); rintro r w3 ⟨rfl, h3, k3⟩; have HKQ := hide (k3.toBlk HBQ.out (by rintro (e | e) <;> cases e)); clear k3; rw [doAll_step HX.out] at h3; have H3 := hide h3; clear h3)
          go_roundw
          case rel => exact ⟨k + 1, by go_num, HLT.out, H3.out, HKQ.out⟩
          case measure => have := HLT.out; simp [intOf]; omega
        · have u1 : decide (k < nn) = false := by simpa using hlt
          have u2 : decide ((k : Int) < (nn : Int)) = false := by simp; omega
          have u3 : ¬ (k : Int) < (nn : Int) := by omega
          have HO2 := hide (show Obj w wr b (doAll l) by
            have e : k = l.length := by have := HNN.out; omega
            rw [e, List.take_length] at hob
            exact hob)
          clear hob hlt hk HO H2
          obtain ⟨⟨sv, L, hp, hP, hft⟩, hbel⟩ := HO2.out
          have hg : Good (pcs L) 64 := by rw [hP]; exact doAll_good l
          have hL := hg.size
          rw [pcs_len] at hL
          have HCO := hide (copy_any hp (by omega))
          have HP := hide hp
          have HPP := hide hP
          have HFT := hide hft
          have HBEL := hide hbel
          have HG := hide hg
          clear hp hP hft hbel hg hL HO2
          go_upto_region 17 with (go_at_call 41; (with_reducible refine Calls.mono HCO.out ?_); rintro r w5 ⟨c', sc, rfl, hc, hcf, b5⟩; have HDU := hide (Duo.make HP.out HPP.out HFT.out HBEL.out hc hcf b5); have HK5 := hide (HBQ.out.below b5 HBQ.out.lt); clear hc hcf b5)
          obtain ⟨P, hPd⟩ : ∃ P, P = doAll l := ⟨_, rfl⟩
          have hgP : Good P 64 := by rw [hPd]; exact doAll_good l
          rw [← hPd] at HDU
          clear HCO HP HPP HFT HBEL HG HBQ hPd
          have HGP := hide hgP
          clear hgP
          have HS1 := hide (obj_spans HDU.out.one HGP.out (by omega) 1 65537)
          go_wp2_with fail
          refine (Calls.mono HS1.out) ?_
          rintro r w6 ⟨vS, S, rfl, hO, hS⟩
          have HO6 := hide hO
          have HSS := hide hS
          have HDU6 := hide (HDU.out.below hO.bel)
          have HK6 := hide (HK5.out.below hO.bel HK5.out.lt)
          clear hO hS HS1 HDU HK5
          have HSC := hide (spcopy_any vS S w6 HO6.out.inn.rd (sp_fit HGP.out HSS.out).1 (sp_fit HGP.out HSS.out).2)
          go_wp2_with fail
          refine (Calls.mono HSC.out) ?_
          rintro r w7 ⟨vT, T, rfl, hO, hT⟩
          have HTT := hide (hT.trans HSS.out)
          have HT7 := hide hO.inn
          have HDU7 := hide (HDU6.out.below hO.bel)
          have HK7 := hide (HK6.out.below hO.bel HK6.out.lt)
          clear hO hT HSC HDU6 HK6 HSS HO6
          have k0 := HK7.out.cell 0
          have k1 := HK7.out.cell 1
          have k2 := HK7.out.cell 2
          have k3 := HK7.out.cell 3
          have k4 := HK7.out.cell 4
          have k5 := HK7.out.cell 5
          have k6 := HK7.out.cell 6
          have k7 := HK7.out.cell 7
          have HD7 := hide (duo_do HDU7.out.symm HGP.out a (HAK.out.below HDU7.out.bel))
          rw [HSV.out] at HD7
          go_wp2_with fail
          refine (Calls.mono HD7.out) ?_
          rintro r w8 ⟨rfl, hd, hk⟩
          have HDU8 := hide hd.symm
          have HK8 := hide (hk.toBlk HK7.out (by rintro (e | e) <;> cases e))
          have HT8 := hide (HT7.out.keep hk)
          clear hd hk HD7 HK7 HT7 k0 k1 k2 k3 k4 k5 k6 k7
          have HS2 := hide (obj_spans HDU8.out.one HGP.out (by omega) 1 65537)
          go_wp2_with fail
          refine (Calls.mono HS2.out) ?_
          rintro r w9 ⟨vU, U, rfl, hO, hU⟩
          have HUU := hide hU
          have HU9 := hide hO.inn
          have HDU9 := hide (HDU8.out.below hO.bel)
          have HK9 := hide (HK8.out.below hO.bel HK8.out.lt)
          have HT9 := hide (HT8.out.below hO.bel)
          clear hO hU HS2 HDU8 HK8 HT8
          have HSM := hide (show Calls Try.prog 34 #[vU, vT] w9 (fun e w' => e = .returned (.bool true) ∧ ∃ q, w' = w9.drewN q) from by
            have := samespans_any U T vU vT w9 HU9.out.rd HT9.out.rd (sp_fit HGP.out HUU.out).1 (sp_fit HGP.out HTT.out).1 (sp_fit HGP.out HUU.out).2 (sp_fit HGP.out HTT.out).2
            rw [decide_eq_true (HUU.out.trans HTT.out.symm)] at this
            exact this)
          go_wp2_with fail
          refine (Calls.mono HSM.out) ?_
          rintro r wz ⟨rfl, q, hq⟩
          have hb9 : Below w9.heap.size w9 wz := by rw [hq]; exact ((Only.refl (fun _ => False) w9).drewN q).below_none
          have HDU10 := hide (HDU9.out.below hb9)
          have HK10 := hide (HK9.out.below hb9 HK9.out.lt)
          clear hq hb9 HSM HU9 HT9 HDU9 HK9 HUU HTT
          have k0 := HK10.out.cell 0
          have k1 := HK10.out.cell 1
          have k2 := HK10.out.cell 2
          have k3 := HK10.out.cell 3
          have k4 := HK10.out.cell 4
          have k5 := HK10.out.cell 5
          have k6 := HK10.out.cell 6
          have k7 := HK10.out.cell 7
          have HD10 := hide (duo_do HDU10.out HGP.out a (HAK.out.below HDU10.out.bel))
          rw [HSV.out] at HD10
          go_wp2_with fail
          refine (Calls.mono HD10.out) ?_
          rintro r w11 ⟨rfl, hd, _⟩
          have HDU11 := hide hd
          have HGQ := hide (HGP.out.doQ (by omega) a)
          clear hd HD10 HK10 k0 k1 k2 k3 k4 k5 k6 k7 HDU10
          have HS3 := hide (obj_spans HDU11.out.one HGQ.out (by omega) 1 65537)
          go_wp2_with fail
          refine (Calls.mono HS3.out) ?_
          rintro r w12 ⟨vX, X, rfl, hO, hX⟩
          have HXX := hide hX
          have HX12 := hide hO.inn
          have HDU12 := hide (HDU11.out.below hO.bel)
          clear hO hX HS3 HDU11
          have HS4 := hide (obj_spans HDU12.out.symm.one HGQ.out (by omega) 1 65537)
          go_wp2_with fail
          refine (Calls.mono HS4.out) ?_
          rintro r w13 ⟨vY, Y, rfl, hO, hY⟩
          have HYY := hide hY
          have HY13 := hide hO.inn
          have HX13 := hide (HX12.out.below hO.bel)
          have HDU13 := hide (HDU12.out.below hO.bel)
          clear hO hY HS4 HDU12 HX12
          have HSM := hide (show Calls Try.prog 34 #[vX, vY] w13 (fun e w' => e = .returned (.bool true) ∧ ∃ q, w' = w13.drewN q) from by
            have := samespans_any X Y vX vY w13 HX13.out.rd HY13.out.rd (sp_fit HGQ.out HXX.out).1 (sp_fit HGQ.out HYY.out).1 (sp_fit HGQ.out HXX.out).2 (sp_fit HGQ.out HYY.out).2
            rw [decide_eq_true (HXX.out.trans HYY.out.symm)] at this
            exact this)
          go_wp2_with fail
          refine (Calls.mono HSM.out) ?_
          rintro r wz ⟨rfl, q, hq⟩
          have HB14 := hide (HDU13.out.bel.trans ((show Below w13.heap.size w13 wz by rw [hq]; exact ((Only.refl (fun _ => False) w13).drewN q).below_none).mono HDU13.out.bel.size))
          clear hq
          go_wp2
          go_ret
          exact ⟨rfl, HB14.out⟩
end Go.Proofs.Ytgiogmbopiblmaa
