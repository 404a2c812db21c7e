/- PropsScript: the walk. No condition but those written. -/
import Derived.Test.YtgiogmbopiblmaaPsp
import Derived.Test.YtgiogmbopiblmaaPsj
namespace Go.Proofs.Ytgiogmbopiblmaa
open Go.RowKit

section
variable {W w w' : World} {b rb N : Nat} {P : List Pc} {L : List (List Pr)}
theorem Obj.keepR (h : Obj W w b P) (hk : KeepT isRef w w') (hb : Below W.heap.size W w') : Obj W w' b P := by
  obtain ⟨⟨sv, L, h1, h2, h3⟩, _⟩ := h
  exact ⟨⟨sv, L, ⟨hk.toBlk h1.box (by unfold isRef; decide), ⟨hk.toSl h1.inn.row (by unfold isRef; decide), fun p hp => hk.toSl (h1.inn.inn p hp) (by unfold isRef; decide)⟩, h1.nf⟩, h2, h3⟩, hb⟩
theorem ROb.keepC (h : ROb W w rb L) (hk : KeepT isCode w w') (hb : Below W.heap.size W w') : ROb W w' rb L := by
  obtain ⟨⟨v, R, h1, h2, h3⟩, h4, _⟩ := h
  exact ⟨⟨v, R, ⟨hk.toBlk h1.box (by unfold isCode; decide), ⟨hk.toSl h1.inn.row (by unfold isCode; decide), fun p hp => hk.toSl (h1.inn.inn p hp) (by unfold isCode; decide)⟩, h1.len, h1.fit⟩, h2, h3⟩, h4, hb⟩
theorem rnew_any (hb : Below W.heap.size W w) : Calls Try.prog 32 #[] w fun e w' => ∃ rb, e = .returned (.pointer (some ⟨rb, 0, none⟩)) ∧ ROb W w' rb [] ∧ Below w.heap.size w w' := by
  have HB := hide hb
  clear hb
  go_enter Try.func32, Try.ntmps32
  go_wp2_with fail
  go_ret
  have hb0 := below_box w (.cells #[.slice none 0 0] 84)
  exact ⟨w.heap.size, rfl, ⟨⟨.slice none 0 0, [], ⟨Blk.new w _ _, LxAt.nil _, Nat.zero_le _, fun x hx => by cases hx⟩, rfl, fun g hg => by cases hg⟩, HB.out.size, HB.out.trans (hb0.mono HB.out.size)⟩, hb0⟩
theorem obj_copy (h : Obj W w b P) (hg : Good P N) : Calls Try.prog 41 #[.pointer (some ⟨b, 0, none⟩)] w fun e w' => ∃ b', e = .returned (.pointer (some ⟨b', 0, none⟩)) ∧ Obj W w' b' P ∧ Below w.heap.size w w' := by
  obtain ⟨⟨sv, L, h1, rfl, h3⟩, h4⟩ := h
  have hz := hg.size
  rw [pcs_len] at hz
  refine (copy_any h1 (by omega)).mono ?_
  rintro e w' ⟨b', sv', rfl, g1, g2, g3⟩
  exact ⟨b', rfl, ⟨⟨sv', L, g1, rfl, fun g hg => Nat.le_trans h4.size (g2 g hg)⟩, h4.trans (g3.mono h4.size)⟩, g3⟩
theorem sp_fitG (hg : Good P 64) {S : List (Sn × Value)} {x y z : Int} (h : sns S = spP P x y z) : S.length ≤ 1000000 ∧ ∀ s ∈ S, s.1.pr.length ≤ 1000000 := by
  refine ⟨?_, fun s hs => ?_⟩
  · have := cut_len hg x y z
    rw [← h, sns_len] at this
    omega
  · have := cut_pr hg x y z s.1 (by rw [← h]; exact List.mem_map_of_mem hs)
    omega
theorem sp_fit (hg : Good P 64) {S : List (Sn × Value)} {x y : Int} (h : sns S = spP P x y 0) : S.length ≤ 1000000 ∧ ∀ s ∈ S, s.1.pr.length ≤ 1000000 := sp_fitG hg h
theorem denI_len (hg : Good P N) (x : Int) : (denI P x).length ≤ N := by
  unfold denI
  split
  · exact Nat.zero_le _
  · exact hg.len _
end
theorem like_nil : Like [] [] := fun _ => rfl
set_option maxRecDepth 100000 in
set_option maxHeartbeats 64000000 in
theorem script_walk (l : List Ac) (v : Value) (x1 x2 x3 : Int) (w : World) (h : ActsRd w v l) (hm : l.length ≤ maxLen) (hat : -9223372036854775808 ≤ x1) : Calls Try.prog 8 #[v, .int .i64 x1, .int .i64 x2, .int .i64 x3] w fun e w' => e = .returned (.bool true) ∧ Below w.heap.size w w' := by
  obtain ⟨A, c, rfl, _⟩ := id h.row
  have HLA := hide (fun (w1 : World) (hb : Below w.heap.size w w1) => light_any l _ w1 (h.sub hb) hm)
  obtain ⟨nn, hnn⟩ : ∃ nn, nn = l.length := ⟨_, rfl⟩
  have hl2 : (nn : Int) ≤ 9223372036854775807 := by unfold maxLen at hm; omega
  have HAR := hide h
  have HA0 := hide (fun (hl : lightL l = true) => acts_ok h hl)
  rw [← hnn] at HAR HLA ⊢
  have HNN := hide hnn
  have HAT := hide hat
  have HNE1 := hide (fun (y : World) => near_any x1 y)
  have HNE2 := hide (fun (y : World) => near_any x2 y)
  clear h hm hnn hat
  go_enter Try.func8, Try.ntmps8
  go_wp2_with fail
  refine (Calls.mono (lives_any w)) ?_
  rintro r w1 ⟨rfl, b1⟩
  have B1 := hide b1
  clear b1
  have HL1 := hide (HLA.out w1 B1.out)
  clear HLA
  cases hL : lightL l with
  | false =>
    rw [hL] at HL1
    clear hL
    go_wp2_with (go_at_call 27; (with_reducible refine Calls.mono HL1.out ?_); rintro r w2 ⟨rfl, rfl⟩)
    go_ret
    exact ⟨rfl, B1.out⟩
  | true =>
    rw [hL] at HL1
    have HAO := hide (HA0.out hL)
    clear hL HA0
    cases hn1 : nearB x1 with
    | false =>
      rw [hn1] at HNE1
      clear hn1
      go_wp2_with (first | (go_at_call 27; (with_reducible refine Calls.mono HL1.out ?_); rintro r w2 ⟨rfl, rfl⟩) | (go_at_call 31; (with_reducible refine Calls.mono (HNE1.out _) ?_); rintro r w2 ⟨rfl, rfl⟩))
      go_ret
      exact ⟨rfl, B1.out⟩
    | true =>
      rw [hn1] at HNE1
      clear hn1
      cases hn2 : nearB x2 with
      | false =>
        rw [hn2] at HNE2
        clear hn2
        go_wp2_with (first | (go_at_call 27; (with_reducible refine Calls.mono HL1.out ?_); rintro r w2 ⟨rfl, rfl⟩) | (go_at_call 31; (with_reducible refine Calls.mono (HNE1.out _) ?_); rintro r w2 ⟨rfl, rfl⟩) | (go_at_call 31; (with_reducible refine Calls.mono (HNE2.out _) ?_); rintro r w2 ⟨rfl, rfl⟩))
        go_ret
        exact ⟨rfl, B1.out⟩
      | true =>
        rw [hn2] at HNE2
        clear hn2
        have HNW := hide (obj_new B1.out)
        have HNR := hide (fun (y : World) (hb : Below w.heap.size w y) => rnew_any hb)
        go_wp2_with (first | (go_at_call 27; (with_reducible refine Calls.mono HL1.out ?_); rintro r w2 ⟨rfl, rfl⟩) | (go_at_call 31; (with_reducible refine Calls.mono (HNE1.out _) ?_); rintro r w2 ⟨rfl, rfl⟩) | (go_at_call 31; (with_reducible refine Calls.mono (HNE2.out _) ?_); rintro r w2 ⟨rfl, rfl⟩) | (go_at_call 12; (with_reducible refine Calls.mono HNW.out ?_); rintro r w2 ⟨b, rfl, h2, b2⟩; have H2 := hide h2; clear h2 b2) | (go_at_call 32; (with_reducible refine Calls.mono (HNR.out _ H2.out.bel) ?_); rintro r w3 ⟨rb, rfl, h3, b3⟩; have H3 := hide h3; have H4 := hide (H2.out.below b3); clear h3 b3))
        clear HL1 HNE1 HNE2 HNW HNR
        go_loopw [11] (fun iv wr => ∃ (k : Nat) (L : List (List Pr)), iv = .int .i64 (k : Int) ∧ k ≤ nn ∧ Obj w wr b (doAll (l.take k)) ∧ ROb w wr rb L ∧ Like L (doAll (l.take k))) (fun iv _ => nn - (intOf iv).toNat)
        case atStart => exact ⟨0, [], rfl, Nat.zero_le _, H4.out, H3.out, like_nil⟩
        case round =>
          clear H2 H3 H4 B1
          obtain ⟨k, L, rfl, hk, hob, hro, hlk⟩ := hrel
          obtain ⟨P, hP⟩ : ∃ P, P = doAll (l.take k) := ⟨_, rfl⟩
          have hg : Good P 64 := by rw [hP]; exact doAll_good _
          rw [← hP] at hob hlk
          have HO := hide hob
          have HRO := hide hro
          have HLK := hide hlk
          have HPE := hide hP
          have HG := hide hg
          by_cases hlt : k < nn
          · have u1 : decide (k < nn) = true := by simpa using hlt
            have u2 : decide ((k : Int) < (nn : Int)) = true := by simp; omega
            have u3 : (k : Int) < (nn : Int) := by omega
            obtain ⟨a, hx⟩ : ∃ a, l[k]? = some a := ⟨_, List.getElem?_eq_getElem (by rw [← HNN.out]; exact hlt)⟩
            have har := HAR.out.sub hob.bel
            have hao := HAO.out a (List.mem_of_getElem? hx)
            obtain ⟨g, off, rfl, c0, c1, c2, c3, c4, c5, c6, c7⟩ := har.at_ HNN.out hx
            obtain ⟨AS, cS, hsv, _⟩ := id hao.rd.row
            obtain ⟨P1, hP1⟩ : ∃ P1, P1 = doQ P a := ⟨_, rfl⟩
            obtain ⟨E0, hE0⟩ : ∃ E0, E0 = doE P a := ⟨_, rfl⟩
            have HG1 := hide (show Good P1 64 from by rw [hP1]; exact hg.doQ (by omega) a)
            have HP1 := hide (show P1 = doAll (l.take (k + 1)) from by rw [hP1, hP]; exact doAll_step hx)
            have HDO0 := hide (fun (y : World) (hb : Below wr.heap.size wr y) => (show Calls Try.prog 28 #[.pointer (some ⟨b, 0, none⟩), .agg #[.int .i64 a.kd, .int .i64 a.fr, .int .i64 a.en, .int .i64 a.nm, .int .i64 a.n, .int .i64 a.k, .int .i64 a.v, .slice AS a.S.length cS]] y (ORes w y b P1 (.int .i64 E0)) from by
              have := obj_do (HO.out.below hb) HG.out a (hao.below (HO.out.below hb).bel)
              rw [← hP1, ← hE0, hsv] at this
              exact this))
            have HDR := hide (fun (y : World) (hr : ROb w y rb L) => (show Calls Try.prog 33 #[.pointer (some ⟨rb, 0, none⟩), .agg #[.int .i64 a.kd, .int .i64 a.fr, .int .i64 a.en, .int .i64 a.nm, .int .i64 a.n, .int .i64 a.k, .int .i64 a.v, .slice AS a.S.length cS]] y (RRes w y rb P1 (.int .i64 E0)) from by
              have := rdo_any hr HLK.out HG.out a (hao.below hr.bel)
              rw [← hP1, ← hE0, hsv] at this
              exact this))
            rw [hsv] at c7
            have HX := hide hx
            have HLT := hide hlt
            have HBX := hide (below_box wr (.cells #[.int .i64 a.kd, .int .i64 a.fr, .int .i64 a.en, .int .i64 a.nm, .int .i64 a.n, .int .i64 a.k, .int .i64 a.v, .slice AS a.S.length cS] 49))
            have HBK := hide (Blk.new wr 49 #[.int .i64 a.kd, .int .i64 a.fr, .int .i64 a.en, .int .i64 a.nm, .int .i64 a.n, .int .i64 a.k, .int .i64 a.v, .slice AS a.S.length cS])
            have HKC := hide (fun (x : World) (hb : Blk x wr.heap.size 49 #[.int .i64 a.kd, .int .i64 a.fr, .int .i64 a.en, .int .i64 a.nm, .int .i64 a.n, .int .i64 a.k, .int .i64 a.v, .slice AS a.S.length cS]) => (show (x.cell? ⟨wr.heap.size, 0, none⟩ = some (.int .i64 a.kd) ∧ x.cell? ⟨wr.heap.size, 1, none⟩ = some (.int .i64 a.fr) ∧ x.cell? ⟨wr.heap.size, 2, none⟩ = some (.int .i64 a.en) ∧ x.cell? ⟨wr.heap.size, 3, none⟩ = some (.int .i64 a.nm) ∧ x.cell? ⟨wr.heap.size, 4, none⟩ = some (.int .i64 a.n) ∧ x.cell? ⟨wr.heap.size, 5, none⟩ = some (.int .i64 a.k) ∧ x.cell? ⟨wr.heap.size, 6, none⟩ = some (.int .i64 a.v) ∧ x.cell? ⟨wr.heap.size, 7, none⟩ = some (.slice AS a.S.length cS)) from ⟨hb.cell 0, hb.cell 1, hb.cell 2, hb.cell 3, hb.cell 4, hb.cell 5, hb.cell 6, hb.cell 7⟩))
            obtain ⟨g1, hg1⟩ : ∃ z, z = (getV (denI P1 a.fr) a.nm).1 := ⟨_, rfl⟩
            obtain ⟨g2, hg2⟩ : ∃ z, z = (getV (denI P1 a.fr) a.nm).2 := ⟨_, rfl⟩
            obtain ⟨gb, hgb⟩ : ∃ z, z = (getP (denI P1 a.fr) a.nm).isSome := ⟨_, rfl⟩
            have HGE := hide (And.intro hg1 (And.intro hg2 hgb))
            clear hob hro hlk hP hg hlt hx har hao hk hsv hP1 hE0 hg1 hg2 hgb HAR HAO
            go_upto_region 10 with fail
            have HB2 := hide (HBX.out.drew)
            have HBK2 := hide (HBK.out.drew)
            refine wp_region_d (S := fun y => (y.cell? ⟨wr.heap.size, 0, none⟩ = some (.int .i64 a.kd) ∧ y.cell? ⟨wr.heap.size, 1, none⟩ = some (.int .i64 a.fr) ∧ y.cell? ⟨wr.heap.size, 2, none⟩ = some (.int .i64 a.en) ∧ y.cell? ⟨wr.heap.size, 3, none⟩ = some (.int .i64 a.nm) ∧ y.cell? ⟨wr.heap.size, 4, none⟩ = some (.int .i64 a.n) ∧ y.cell? ⟨wr.heap.size, 5, none⟩ = some (.int .i64 a.k) ∧ y.cell? ⟨wr.heap.size, 6, none⟩ = some (.int .i64 a.v) ∧ y.cell? ⟨wr.heap.size, 7, none⟩ = some (.slice AS a.S.length cS))) (D := []) (by kernel_rfl) ?_
            change wpAnyD _ _ _ _ _ _ _ _ _ (wr.alloc (.cells #[.int .i64 a.kd, .int .i64 a.fr, .int .i64 a.en, .int .i64 a.nm, .int .i64 a.n, .int .i64 a.k, .int .i64 a.v, .slice AS a.S.length cS] 49)).drew
            obtain ⟨w2, hw2⟩ : ∃ y : World, y = (wr.alloc (.cells #[.int .i64 a.kd, .int .i64 a.fr, .int .i64 a.en, .int .i64 a.nm, .int .i64 a.n, .int .i64 a.k, .int .i64 a.v, .slice AS a.S.length cS] 49)).drew := ⟨_, rfl⟩
            rw [← hw2] at HB2 HBK2 ⊢
            clear hw2 HBX HBK c0 c1 c2 c3 c4 c5 c6 c7
            have HDO := hide (HDO0.out w2 HB2.out)
            have hS := HKC.out w2 HBK2.out
            refine wpAnyD_takeW (i := 0) (oi := { dst := some 44, op := Op.move (Operand.tmp 9), type := 24, pos := "law.go:130", after := #[], guard := none }) (v := ?_) rfl (by kernel_rfl) (by kernel_rfl) (by kernel_rfl) (fun _ _ _ h => h) (Or.inl ⟨by rfl, ?_⟩) ?_
            rotate_left
            · intro w hSw
              clear hSw
              go_simp
              all_goals with_reducible rfl
            simp only [Act.put, List.setIfInBounds_toArray, List.set_cons_zero, List.set_cons_succ]
            refine wpAnyD_take (i := 1) (oi := { dst := some 45, op := Op.load 49 (Operand.tmp 12), type := 49, pos := "law.go:130", after := #[], guard := none }) (v := ?_) rfl (by kernel_rfl) (by kernel_rfl) (by kernel_rfl) (by kernel_rfl) (by kernel_rfl) (fun _ _ _ h => h) (Or.inl ⟨by rfl, ?_⟩) hS ?_
            rotate_left
            · intro w hSw
              obtain ⟨s0, s1, s2, s3, s4, s5, s6, s7⟩ := hSw
              go_simp
              all_goals with_reducible rfl
            simp only [Act.put, List.setIfInBounds_toArray, List.set_cons_zero, List.set_cons_succ]
            refine wpAnyD_takeW (i := 3) (oi := { dst := some 47, op := Op.move (Operand.tmp 10), type := 61, pos := "law.go:130", after := #[], guard := none }) (v := ?_) rfl (by kernel_rfl) (by kernel_rfl) (by kernel_rfl) (fun _ _ _ h => h) (Or.inl ⟨by rfl, ?_⟩) ?_
            rotate_left
            · intro w hSw
              clear hSw
              go_simp
              all_goals with_reducible rfl
            simp only [Act.put, List.setIfInBounds_toArray, List.set_cons_zero, List.set_cons_succ]
            refine wpAnyD_take (i := 4) (oi := { dst := some 48, op := Op.load 49 (Operand.tmp 12), type := 49, pos := "law.go:130", after := #[], guard := none }) (v := ?_) rfl (by kernel_rfl) (by kernel_rfl) (by kernel_rfl) (by kernel_rfl) (by kernel_rfl) (fun _ _ _ h => h) (Or.inl ⟨by rfl, ?_⟩) hS ?_
            rotate_left
            · intro w hSw
              obtain ⟨s0, s1, s2, s3, s4, s5, s6, s7⟩ := hSw
              go_simp
              all_goals with_reducible rfl
            simp only [Act.put, List.setIfInBounds_toArray, List.set_cons_zero, List.set_cons_succ]
            clear hS
            refine wpAnyD_one (i := 2) (o := { dst := some 46, op := Op.call { callee := Callee.value (Operand.func 28), args := #[Operand.tmp 44, Operand.tmp 45], argTypes := #[24, 49] }, type := 26, pos := "law.go:130", after := #[{ on := 0, ground := Ground.data }, { on := 1, ground := Ground.data }], guard := none }) (by kernel_rfl) rfl (fun K hK => ?_)
            go_simp
            (with_reducible refine Calls.mono (HDO.out) ?_)
            rintro r w3 ⟨rfl, o3, k3⟩
            have O3 := hide o3
            have B3 := hide (k3.toBlk HBK2.out (by unfold isCode; decide))
            have R3 := hide ((HRO.out.below HB2.out).keepC k3 o3.bel)
            clear o3 k3 HDO HDO0
            have hS := HKC.out _ B3.out
            refine hK _ _ (fun _ _ => hS) ?_
            clear hK K
            try simp only [Act.put, List.setIfInBounds_toArray, List.set_cons_zero, List.set_cons_succ]
            clear hS
            refine wpAnyD_one (i := 5) (o := { dst := some 49, op := Op.call { callee := Callee.value (Operand.func 33), args := #[Operand.tmp 47, Operand.tmp 48], argTypes := #[61, 49] }, type := 26, pos := "law.go:130", after := #[{ on := 3, ground := Ground.data }, { on := 4, ground := Ground.data }, { on := 2, ground := Ground.chain }], guard := none }) (by kernel_rfl) rfl (fun K hK => ?_)
            go_simp
            (with_reducible refine Calls.mono (HDR.out _ R3.out) ?_)
            rintro r w4 ⟨rfl, ⟨L4, r4, l4⟩, k4⟩
            have R4 := hide r4
            have L4K := hide l4
            have B4 := hide (k4.toBlk B3.out (by unfold isRef; decide))
            have O4 := hide (O3.out.keepR k4 r4.bel)
            clear r4 l4 k4 HDR
            have hS := HKC.out _ B4.out
            refine hK _ _ (fun _ _ => hS) ?_
            clear hK K
            try simp only [Act.put, List.setIfInBounds_toArray, List.set_cons_zero, List.set_cons_succ]
            refine wpAnyD_takeW (i := 6) (oi := { dst := some 50, op := Op.binOp BinOp.neq 26 (Operand.tmp 46) (Operand.tmp 49) 26, type := 4, pos := "law.go:130", after := #[{ on := 2, ground := Ground.data }, { on := 5, ground := Ground.data }], guard := none }) (v := ?_) rfl (by kernel_rfl) (by kernel_rfl) (by kernel_rfl) (fun _ _ _ h => h) (Or.inl ⟨by rfl, ?_⟩) ?_
            rotate_left
            · intro w hSw
              clear hSw
              go_simp
              all_goals with_reducible rfl
            simp only [Act.put, List.setIfInBounds_toArray, List.set_cons_zero, List.set_cons_succ]
            refine wpAnyD_takeW (i := 7) (oi := { dst := some 51, op := Op.move (Operand.tmp 50), type := 4, pos := "law.go:130", after := #[{ on := 6, ground := Ground.data }, { on := 5, ground := Ground.chain }], guard := none }) (v := ?_) rfl (by kernel_rfl) (by kernel_rfl) (by kernel_rfl) (fun _ _ _ h => h) (Or.inl ⟨by rfl, ?_⟩) ?_
            rotate_left
            · intro w hSw
              clear hSw
              go_simp
              all_goals with_reducible rfl
            simp only [Act.put, List.setIfInBounds_toArray, List.set_cons_zero, List.set_cons_succ]
            refine wpAnyD_takeW (i := 8) (oi := { dst := some 52, op := Op.move (Operand.tmp 9), type := 24, pos := "law.go:130", after := #[{ on := 7, ground := Ground.guard }], guard := some (7, false) }) (v := ?_) rfl (by kernel_rfl) (by kernel_rfl) (by kernel_rfl) (fun _ _ _ h => h) (Or.inl ⟨by rfl, ?_⟩) ?_
            rotate_left
            · intro w hSw
              clear hSw
              go_simp
              all_goals with_reducible rfl
            simp only [Act.put, List.setIfInBounds_toArray, List.set_cons_zero, List.set_cons_succ]
            refine wpAnyD_takeW (i := 10) (oi := { dst := some 54, op := Op.move (Operand.tmp 10), type := 61, pos := "law.go:130", after := #[{ on := 7, ground := Ground.guard }], guard := some (7, false) }) (v := ?_) rfl (by kernel_rfl) (by kernel_rfl) (by kernel_rfl) (fun _ _ _ h => h) (Or.inl ⟨by rfl, ?_⟩) ?_
            rotate_left
            · intro w hSw
              clear hSw
              go_simp
              all_goals with_reducible rfl
            simp only [Act.put, List.setIfInBounds_toArray, List.set_cons_zero, List.set_cons_succ]
            have HSP := hide (obj_spans O4.out HG1.out (by omega) 1 65537)
            clear hS
            refine wpAnyD_one (i := 9) (o := { dst := some 53, op := Op.call { callee := Callee.value (Operand.func 18), args := #[Operand.tmp 52, Operand.const (Value.int IntKind.i64 1), Operand.const (Value.int IntKind.i64 65537)], argTypes := #[24, 3, 3] }, type := 34, pos := "law.go:130", after := #[{ on := 8, ground := Ground.data }, { on := 7, ground := Ground.chain }, { on := 7, ground := Ground.guard }], guard := some (7, false) }) (by kernel_rfl) rfl (fun K hK => ?_)
            go_simp
            (with_reducible refine Calls.mono (HSP.out) ?_)
            rintro r w5 ⟨v5, S5, rfl, o5, e5⟩
            have O5 := hide o5
            have E5 := hide e5
            obtain ⟨A5, c5, rfl, _⟩ := o5.inn.row.form
            clear HSP
            obtain ⟨v4, R4x, hr4, hrl4, _⟩ := R4.out.ex
            have HSQ := hide (rspans_any (hr4.below o5.bel) (by rw [hrl4]; exact L4K.out) HG1.out (by omega) 1 65537)
            have B5 := hide (B4.out.below o5.bel B4.out.lt)
            clear o5 e5 hr4 hrl4
            have hS := HKC.out _ B5.out
            refine hK _ _ (fun _ _ => hS) ?_
            clear hK K
            try simp only [Act.put, List.setIfInBounds_toArray, List.set_cons_zero, List.set_cons_succ]
            clear hS
            refine wpAnyD_one (i := 11) (o := { dst := some 55, op := Op.call { callee := Callee.value (Operand.func 35), args := #[Operand.tmp 54, Operand.const (Value.int IntKind.i64 1), Operand.const (Value.int IntKind.i64 65537)], argTypes := #[61, 3, 3] }, type := 34, pos := "law.go:130", after := #[{ on := 10, ground := Ground.data }, { on := 9, ground := Ground.chain }, { on := 7, ground := Ground.guard }], guard := some (7, false) }) (by kernel_rfl) rfl (fun K hK => ?_)
            go_simp
            (with_reducible refine Calls.mono (HSQ.out) ?_)
            rintro r w6 ⟨v6, S6, rfl, o6, e6⟩
            have O6 := hide o6
            have E6 := hide e6
            obtain ⟨A6, c6, rfl, _⟩ := o6.inn.row.form
            clear HSQ
            have f5 := sp_fit HG1.out E5.out
            have f6 := sp_fit HG1.out e6
            have HSS := hide (samespans_any S5 S6 _ _ w6 (O5.out.inn.rd.below o6.bel) o6.inn.rd f5.1 f6.1 f5.2 f6.2)
            rw [E5.out, e6, decide_eq_true rfl] at HSS
            have B6 := hide (B5.out.below o6.bel B5.out.lt)
            clear o6 e6 f5 f6
            have hS := HKC.out _ B6.out
            refine hK _ _ (fun _ _ => hS) ?_
            clear hK K
            try simp only [Act.put, List.setIfInBounds_toArray, List.set_cons_zero, List.set_cons_succ]
            clear hS
            refine wpAnyD_one (i := 12) (o := { dst := some 56, op := Op.call { callee := Callee.value (Operand.func 34), args := #[Operand.tmp 53, Operand.tmp 55], argTypes := #[34, 34] }, type := 4, pos := "law.go:130", after := #[{ on := 9, ground := Ground.data }, { on := 11, ground := Ground.data }, { on := 11, ground := Ground.chain }, { on := 7, ground := Ground.guard }], guard := some (7, false) }) (by kernel_rfl) rfl (fun K hK => ?_)
            go_simp
            (with_reducible refine Calls.mono (HSS.out) ?_)
            rintro r w7 ⟨rfl, hq⟩
            have B67 := hide (show Below w6.heap.size w6 w7 from by obtain ⟨q, rfl⟩ := hq; exact below_dN2 q)
            have B7 := hide (B6.out.below B67.out B6.out.lt)
            clear hq HSS
            have hS := HKC.out _ B7.out
            refine hK _ _ (fun _ _ => hS) ?_
            clear hK K
            try simp only [Act.put, List.setIfInBounds_toArray, List.set_cons_zero, List.set_cons_succ]
            refine wpAnyD_takeW (i := 13) (oi := { dst := some 57, op := Op.unOp UnOp.not 4 (Operand.tmp 56), type := 4, pos := "law.go:130", after := #[{ on := 12, ground := Ground.data }, { on := 7, ground := Ground.guard }], guard := some (7, false) }) (v := ?_) rfl (by kernel_rfl) (by kernel_rfl) (by kernel_rfl) (fun _ _ _ h => h) (Or.inl ⟨by rfl, ?_⟩) ?_
            rotate_left
            · intro w hSw
              clear hSw
              go_simp
              all_goals with_reducible rfl
            simp only [Act.put, List.setIfInBounds_toArray, List.set_cons_zero, List.set_cons_succ]
            refine wpAnyD_takeW (i := 14) (oi := { dst := some 58, op := Op.pick (Operand.tmp 51) (Operand.const (Value.bool true)) (Operand.tmp 57), type := 4, pos := "law.go:130", after := #[{ on := 7, ground := Ground.data }, { on := 13, ground := Ground.data }], guard := none }) (v := ?_) rfl (by kernel_rfl) (by kernel_rfl) (by kernel_rfl) (fun _ _ _ h => h) (Or.inl ⟨by rfl, ?_⟩) ?_
            rotate_left
            · intro w hSw
              clear hSw
              go_simp
              all_goals with_reducible rfl
            simp only [Act.put, List.setIfInBounds_toArray, List.set_cons_zero, List.set_cons_succ]
            refine wpAnyD_done (by kernel_rfl) ?_ _
            clear hS
            have B47 := hide ((O5.out.bel.trans (O6.out.bel.mono O5.out.bel.size)).trans (B67.out.mono (Nat.le_trans O5.out.bel.size O6.out.bel.size)))
            have O7 := hide (O4.out.below B47.out)
            have R7 := hide (R4.out.below B47.out)
            clear O4 R4 B47 B67 O5 O6 E5 E6 B6 B5 B4 B3 R3 O3 HB2 HBK2 HRO
            obtain ⟨v7, R7x, hr7, hrl7, _⟩ := R7.out.ex
            have HR7 := hide hr7
            have HRL7 := hide (show Like (lsts R7x) P1 by rw [hrl7]; exact L4K.out)
            clear hr7 hrl7
            have hb1 := B7.out.cell 1
            have hb3 := B7.out.cell 3
            have HGT := hide (show Calls Try.prog 21 #[.pointer (some ⟨b, 0, none⟩), .int .i64 a.fr, .int .i64 a.nm] w7 (fun e w' => e = .returned (.tuple #[.agg #[.int .i64 g1, .int .i64 g2], .bool gb]) ∧ Below w7.heap.size w7 w') from by
              have := obj_get O7.out HG1.out (by omega) a.fr a.nm
              rw [← HGE.out.1, ← HGE.out.2.1, ← HGE.out.2.2] at this
              exact this)
            have HGR := hide (fun (x : World) (hb : Below w7.heap.size w7 x) => (show Calls Try.prog 36 #[.pointer (some ⟨rb, 0, none⟩), .int .i64 a.fr, .int .i64 a.nm] x (fun e w' => e = .returned (.tuple #[.agg #[.int .i64 g1, .int .i64 g2], .bool gb]) ∧ Below x.heap.size x w') from by
              have := rget_any (HR7.out.below hb) a.fr a.nm
              rw [like_lstI HRL7.out HG1.out, ← HGE.out.1, ← HGE.out.2.1, ← HGE.out.2.2] at this
              exact this))
            go_upto_region 14 with (first | (go_at_call 21; (with_reducible refine Calls.mono HGT.out ?_); rintro r w8 ⟨rfl, b8⟩; have B8 := hide (b8.alloc b8.size (.cells #[.int .i64 g1, .int .i64 g2] 29)); have BX := hide (Blk.new w8 29 #[.int .i64 g1, .int .i64 g2]); have hd1 := (B7.out.below B8.out B7.out.lt).cell 1; have hd3 := (B7.out.below B8.out B7.out.lt).cell 3; clear b8) | (go_at_call 36; (with_reducible refine Calls.mono (HGR.out _ B8.out) ?_); rintro r w9 ⟨rfl, b9⟩; have B9 := hide ((B8.out.trans (b9.mono B8.out.size)).alloc (B8.out.trans (b9.mono B8.out.size)).size (.cells #[.int .i64 g1, .int .i64 g2] 29)); have BXX := hide ((BX.out.below b9 BX.out.lt).alloc (.cells #[.int .i64 g1, .int .i64 g2] 29)); have BY := hide (Blk.new w9 29 #[.int .i64 g1, .int .i64 g2]); clear b9))
            have HBA := hide (B9.out.drew)
            have HBX2 := hide (BXX.out.drew)
            have HBY2 := hide (BY.out.drew)
            have HBK3 := hide ((B7.out.below B9.out B7.out.lt).drew)
            refine wp_region_d (S := fun y => (y.cell? ⟨wr.heap.size, 1, none⟩ = some (.int .i64 a.fr) ∧ y.cell? ⟨wr.heap.size, 2, none⟩ = some (.int .i64 a.en) ∧ y.cell? ⟨w8.heap.size, 0, none⟩ = some (.int .i64 g1) ∧ y.cell? ⟨w8.heap.size, 1, none⟩ = some (.int .i64 g2) ∧ y.cell? ⟨w9.heap.size, 0, none⟩ = some (.int .i64 g1) ∧ y.cell? ⟨w9.heap.size, 1, none⟩ = some (.int .i64 g2))) (D := []) (by kernel_rfl) ?_
            change wpAnyD _ _ _ _ _ _ _ _ _ (w9.alloc (.cells #[.int .i64 g1, .int .i64 g2] 29)).drew
            obtain ⟨w10, hw10⟩ : ∃ y : World, y = (w9.alloc (.cells #[.int .i64 g1, .int .i64 g2] 29)).drew := ⟨_, rfl⟩
            rw [← hw10] at HBA HBX2 HBY2 HBK3 ⊢
            clear hw10 hb1 hb3 hd1 hd3 B8 BX B9 BXX BY HGT HGR
            have OA := hide (O7.out.below HBA.out)
            have RA := hide (HR7.out.below HBA.out)
            have HKS := hide (fun (x : World) (hb : Below w10.heap.size w10 x) => (show (x.cell? ⟨wr.heap.size, 1, none⟩ = some (.int .i64 a.fr) ∧ x.cell? ⟨wr.heap.size, 2, none⟩ = some (.int .i64 a.en) ∧ x.cell? ⟨w8.heap.size, 0, none⟩ = some (.int .i64 g1) ∧ x.cell? ⟨w8.heap.size, 1, none⟩ = some (.int .i64 g2) ∧ x.cell? ⟨w9.heap.size, 0, none⟩ = some (.int .i64 g1) ∧ x.cell? ⟨w9.heap.size, 1, none⟩ = some (.int .i64 g2)) from ⟨cell_keep (HBK3.out.cell 1) hb, cell_keep (HBK3.out.cell 2) hb, cell_keep (HBX2.out.cell 0) hb, cell_keep (HBX2.out.cell 1) hb, cell_keep (HBY2.out.cell 0) hb, cell_keep (HBY2.out.cell 1) hb⟩))
            have hS := HKS.out w10 (Below.refl _ _)
            have HLI := hide (obj_list OA.out HG1.out (by omega) a.en)
            have HQL := hide (show (denI P1 a.en).length ≤ 1000000 from Nat.le_trans (denI_len HG1.out a.en) (by omega))
            refine wpAnyD_take (i := 0) (oi := { dst := some 77, op := Op.load 29 (Operand.tmp 13), type := 29, pos := "law.go:135", after := #[], guard := none }) (v := ?_) rfl (by kernel_rfl) (by kernel_rfl) (by kernel_rfl) (by kernel_rfl) (by kernel_rfl) (fun _ _ _ h => h) (Or.inl ⟨by rfl, ?_⟩) hS ?_
            rotate_left
            · intro w hSw
              obtain ⟨s0, s1, s2, s3, s4, s5⟩ := hSw
              go_simp
              all_goals with_reducible rfl
            simp only [Act.put, List.setIfInBounds_toArray, List.set_cons_zero, List.set_cons_succ]
            refine wpAnyD_take (i := 1) (oi := { dst := some 78, op := Op.load 29 (Operand.tmp 15), type := 29, pos := "law.go:135", after := #[], guard := none }) (v := ?_) rfl (by kernel_rfl) (by kernel_rfl) (by kernel_rfl) (by kernel_rfl) (by kernel_rfl) (fun _ _ _ h => h) (Or.inl ⟨by rfl, ?_⟩) hS ?_
            rotate_left
            · intro w hSw
              obtain ⟨s0, s1, s2, s3, s4, s5⟩ := hSw
              go_simp
              all_goals with_reducible rfl
            simp only [Act.put, List.setIfInBounds_toArray, List.set_cons_zero, List.set_cons_succ]
            refine wpAnyD_takeW (i := 2) (oi := { dst := some 79, op := Op.binOp BinOp.neq 29 (Operand.tmp 77) (Operand.tmp 78) 29, type := 4, pos := "law.go:135", after := #[{ on := 0, ground := Ground.data }, { on := 1, ground := Ground.data }], guard := none }) (v := ?_) rfl (by kernel_rfl) (by kernel_rfl) (by kernel_rfl) (fun _ _ _ h => h) (Or.inl ⟨by rfl, ?_⟩) ?_
            rotate_left
            · intro w hSw
              clear hSw
              go_simp
              all_goals with_reducible rfl
            simp only [Act.put, List.setIfInBounds_toArray, List.set_cons_zero, List.set_cons_succ]
            refine wpAnyD_takeW (i := 3) (oi := { dst := some 80, op := Op.move (Operand.tmp 79), type := 4, pos := "law.go:135", after := #[{ on := 2, ground := Ground.data }], guard := none }) (v := ?_) rfl (by kernel_rfl) (by kernel_rfl) (by kernel_rfl) (fun _ _ _ h => h) (Or.inl ⟨by rfl, ?_⟩) ?_
            rotate_left
            · intro w hSw
              clear hSw
              go_simp
              all_goals with_reducible rfl
            simp only [Act.put, List.setIfInBounds_toArray, List.set_cons_zero, List.set_cons_succ]
            refine wpAnyD_takeW (i := 4) (oi := { dst := some 81, op := Op.move (Operand.tmp 14), type := 4, pos := "law.go:135", after := #[{ on := 3, ground := Ground.guard }], guard := some (3, false) }) (v := ?_) rfl (by kernel_rfl) (by kernel_rfl) (by kernel_rfl) (fun _ _ _ h => h) (Or.inl ⟨by rfl, ?_⟩) ?_
            rotate_left
            · intro w hSw
              clear hSw
              go_simp
              all_goals with_reducible rfl
            simp only [Act.put, List.setIfInBounds_toArray, List.set_cons_zero, List.set_cons_succ]
            refine wpAnyD_takeW (i := 5) (oi := { dst := some 82, op := Op.move (Operand.tmp 16), type := 4, pos := "law.go:135", after := #[{ on := 3, ground := Ground.guard }], guard := some (3, false) }) (v := ?_) rfl (by kernel_rfl) (by kernel_rfl) (by kernel_rfl) (fun _ _ _ h => h) (Or.inl ⟨by rfl, ?_⟩) ?_
            rotate_left
            · intro w hSw
              clear hSw
              go_simp
              all_goals with_reducible rfl
            simp only [Act.put, List.setIfInBounds_toArray, List.set_cons_zero, List.set_cons_succ]
            refine wpAnyD_takeW (i := 6) (oi := { dst := some 83, op := Op.binOp BinOp.neq 4 (Operand.tmp 81) (Operand.tmp 82) 4, type := 4, pos := "law.go:135", after := #[{ on := 4, ground := Ground.data }, { on := 5, ground := Ground.data }, { on := 3, ground := Ground.guard }], guard := some (3, false) }) (v := ?_) rfl (by kernel_rfl) (by kernel_rfl) (by kernel_rfl) (fun _ _ _ h => h) (Or.inl ⟨by rfl, ?_⟩) ?_
            rotate_left
            · intro w hSw
              clear hSw
              go_simp
              all_goals with_reducible rfl
            simp only [Act.put, List.setIfInBounds_toArray, List.set_cons_zero, List.set_cons_succ]
            refine wpAnyD_takeW (i := 7) (oi := { dst := some 84, op := Op.pick (Operand.tmp 80) (Operand.const (Value.bool true)) (Operand.tmp 83), type := 4, pos := "law.go:135", after := #[{ on := 3, ground := Ground.data }, { on := 6, ground := Ground.data }], guard := none }) (v := ?_) rfl (by kernel_rfl) (by kernel_rfl) (by kernel_rfl) (fun _ _ _ h => h) (Or.inl ⟨by rfl, ?_⟩) ?_
            rotate_left
            · intro w hSw
              clear hSw
              go_simp
              all_goals with_reducible rfl
            simp only [Act.put, List.setIfInBounds_toArray, List.set_cons_zero, List.set_cons_succ]
            refine wpAnyD_takeW (i := 8) (oi := { dst := some 85, op := Op.move (Operand.tmp 84), type := 4, pos := "law.go:135", after := #[{ on := 7, ground := Ground.data }, { on := 3, ground := Ground.chain }], guard := none }) (v := ?_) rfl (by kernel_rfl) (by kernel_rfl) (by kernel_rfl) (fun _ _ _ h => h) (Or.inl ⟨by rfl, ?_⟩) ?_
            rotate_left
            · intro w hSw
              clear hSw
              go_simp
              all_goals with_reducible rfl
            simp only [Act.put, List.setIfInBounds_toArray, List.set_cons_zero, List.set_cons_succ]
            refine wpAnyD_takeW (i := 9) (oi := { dst := some 86, op := Op.move (Operand.tmp 9), type := 24, pos := "law.go:135", after := #[{ on := 8, ground := Ground.guard }], guard := some (8, false) }) (v := ?_) rfl (by kernel_rfl) (by kernel_rfl) (by kernel_rfl) (fun _ _ _ h => h) (Or.inl ⟨by rfl, ?_⟩) ?_
            rotate_left
            · intro w hSw
              clear hSw
              go_simp
              all_goals with_reducible rfl
            simp only [Act.put, List.setIfInBounds_toArray, List.set_cons_zero, List.set_cons_succ]
            refine wpAnyD_takeW (i := 10) (oi := { dst := some 87, op := Op.fieldAddr 49 (Operand.tmp 12) 2, type := 0, pos := "law.go:135", after := #[{ on := 8, ground := Ground.guard }], guard := some (8, false) }) (v := ?_) rfl (by kernel_rfl) (by kernel_rfl) (by kernel_rfl) (fun _ _ _ h => h) (Or.inl ⟨by rfl, ?_⟩) ?_
            rotate_left
            · intro w hSw
              clear hSw
              go_simp
              all_goals with_reducible rfl
            simp only [Act.put, List.setIfInBounds_toArray, List.set_cons_zero, List.set_cons_succ]
            refine wpAnyD_take (i := 11) (oi := { dst := some 88, op := Op.load 3 (Operand.tmp 87), type := 3, pos := "law.go:135", after := #[{ on := 10, ground := Ground.data }, { on := 8, ground := Ground.guard }], guard := some (8, false) }) (v := ?_) rfl (by kernel_rfl) (by kernel_rfl) (by kernel_rfl) (by kernel_rfl) (by kernel_rfl) (fun _ _ _ h => h) (Or.inl ⟨by rfl, ?_⟩) hS ?_
            rotate_left
            · intro w hSw
              obtain ⟨s0, s1, s2, s3, s4, s5⟩ := hSw
              go_simp
              all_goals with_reducible rfl
            simp only [Act.put, List.setIfInBounds_toArray, List.set_cons_zero, List.set_cons_succ]
            refine wpAnyD_takeW (i := 13) (oi := { dst := some 90, op := Op.move (Operand.tmp 10), type := 61, pos := "law.go:135", after := #[{ on := 8, ground := Ground.guard }], guard := some (8, false) }) (v := ?_) rfl (by kernel_rfl) (by kernel_rfl) (by kernel_rfl) (fun _ _ _ h => h) (Or.inl ⟨by rfl, ?_⟩) ?_
            rotate_left
            · intro w hSw
              clear hSw
              go_simp
              all_goals with_reducible rfl
            simp only [Act.put, List.setIfInBounds_toArray, List.set_cons_zero, List.set_cons_succ]
            refine wpAnyD_takeW (i := 14) (oi := { dst := some 91, op := Op.fieldAddr 49 (Operand.tmp 12) 2, type := 0, pos := "law.go:135", after := #[{ on := 8, ground := Ground.guard }], guard := some (8, false) }) (v := ?_) rfl (by kernel_rfl) (by kernel_rfl) (by kernel_rfl) (fun _ _ _ h => h) (Or.inl ⟨by rfl, ?_⟩) ?_
            rotate_left
            · intro w hSw
              clear hSw
              go_simp
              all_goals with_reducible rfl
            simp only [Act.put, List.setIfInBounds_toArray, List.set_cons_zero, List.set_cons_succ]
            refine wpAnyD_take (i := 15) (oi := { dst := some 92, op := Op.load 3 (Operand.tmp 91), type := 3, pos := "law.go:135", after := #[{ on := 14, ground := Ground.data }, { on := 8, ground := Ground.guard }], guard := some (8, false) }) (v := ?_) rfl (by kernel_rfl) (by kernel_rfl) (by kernel_rfl) (by kernel_rfl) (by kernel_rfl) (fun _ _ _ h => h) (Or.inl ⟨by rfl, ?_⟩) hS ?_
            rotate_left
            · intro w hSw
              obtain ⟨s0, s1, s2, s3, s4, s5⟩ := hSw
              go_simp
              all_goals with_reducible rfl
            simp only [Act.put, List.setIfInBounds_toArray, List.set_cons_zero, List.set_cons_succ]
            clear hS
            refine wpAnyD_one (i := 12) (o := { dst := some 89, op := Op.call { callee := Callee.value (Operand.func 16), args := #[Operand.tmp 86, Operand.tmp 88], argTypes := #[24, 3] }, type := 32, pos := "law.go:135", after := #[{ on := 9, ground := Ground.data }, { on := 11, ground := Ground.data }, { on := 8, ground := Ground.chain }, { on := 8, ground := Ground.guard }], guard := some (8, false) }) (by kernel_rfl) rfl (fun K hK => ?_)
            go_simp
            (with_reducible refine Calls.mono (HLI.out) ?_)
            rintro r w11 ⟨v11, rfl, p11, _, b11⟩
            have P11 := hide p11
            have C11 := hide b11
            obtain ⟨A11, c11, e11, _⟩ := Sl.form p11
            subst e11
            have HLR := hide (rlist_any (RA.out.below b11) a.en)
            rw [like_lstI HRL7.out HG1.out] at HLR
            clear p11 b11 HLI
            have hS := HKS.out _ C11.out
            refine hK _ _ (fun _ _ => hS) ?_
            clear hK K
            try simp only [Act.put, List.setIfInBounds_toArray, List.set_cons_zero, List.set_cons_succ]
            clear hS
            refine wpAnyD_one (i := 16) (o := { dst := some 93, op := Op.call { callee := Callee.value (Operand.func 37), args := #[Operand.tmp 90, Operand.tmp 92], argTypes := #[61, 3] }, type := 32, pos := "law.go:135", after := #[{ on := 13, ground := Ground.data }, { on := 15, ground := Ground.data }, { on := 12, ground := Ground.chain }, { on := 8, ground := Ground.guard }], guard := some (8, false) }) (by kernel_rfl) rfl (fun K hK => ?_)
            go_simp
            (with_reducible refine Calls.mono (HLR.out) ?_)
            rintro r w12 ⟨v12, rfl, p12, _, b12⟩
            have C12 := hide (C11.out.trans (b12.mono C11.out.size))
            have HSM := hide (same_props _ _ _ _ w12 (Sl.rd (P11.out.below b12)) (Sl.rd p12) HQL.out HQL.out)
            rw [decide_eq_true rfl] at HSM
            obtain ⟨A12, c12, e12, _⟩ := Sl.form p12
            subst e12
            clear p12 b12 HLR
            have hS := HKS.out _ C12.out
            refine hK _ _ (fun _ _ => hS) ?_
            clear hK K
            try simp only [Act.put, List.setIfInBounds_toArray, List.set_cons_zero, List.set_cons_succ]
            clear hS
            refine wpAnyD_one (i := 17) (o := { dst := some 94, op := Op.call { callee := Callee.value (Operand.func 29), args := #[Operand.tmp 89, Operand.tmp 93], argTypes := #[32, 32] }, type := 4, pos := "law.go:135", after := #[{ on := 12, ground := Ground.data }, { on := 16, ground := Ground.data }, { on := 16, ground := Ground.chain }, { on := 8, ground := Ground.guard }], guard := some (8, false) }) (by kernel_rfl) rfl (fun K hK => ?_)
            go_simp
            (with_reducible refine Calls.mono (HSM.out) ?_)
            rintro r w13 ⟨rfl, hq⟩
            have C13 := hide (show Below w10.heap.size w10 w13 from by obtain ⟨q, rfl⟩ := hq; exact C12.out.trans ((below_dN2 q).mono C12.out.size))
            clear hq HSM
            have HCU := hide (obj_cut (OA.out.below C13.out) HG1.out (by omega) a.fr a.en)
            have hS := HKS.out _ C13.out
            refine hK _ _ (fun _ _ => hS) ?_
            clear hK K
            try simp only [Act.put, List.setIfInBounds_toArray, List.set_cons_zero, List.set_cons_succ]
            refine wpAnyD_takeW (i := 18) (oi := { dst := some 95, op := Op.unOp UnOp.not 4 (Operand.tmp 94), type := 4, pos := "law.go:135", after := #[{ on := 17, ground := Ground.data }, { on := 8, ground := Ground.guard }], guard := some (8, false) }) (v := ?_) rfl (by kernel_rfl) (by kernel_rfl) (by kernel_rfl) (fun _ _ _ h => h) (Or.inl ⟨by rfl, ?_⟩) ?_
            rotate_left
            · intro w hSw
              clear hSw
              go_simp
              all_goals with_reducible rfl
            simp only [Act.put, List.setIfInBounds_toArray, List.set_cons_zero, List.set_cons_succ]
            refine wpAnyD_takeW (i := 19) (oi := { dst := some 96, op := Op.pick (Operand.tmp 85) (Operand.const (Value.bool true)) (Operand.tmp 95), type := 4, pos := "law.go:135", after := #[{ on := 8, ground := Ground.data }, { on := 18, ground := Ground.data }], guard := none }) (v := ?_) rfl (by kernel_rfl) (by kernel_rfl) (by kernel_rfl) (fun _ _ _ h => h) (Or.inl ⟨by rfl, ?_⟩) ?_
            rotate_left
            · intro w hSw
              clear hSw
              go_simp
              all_goals with_reducible rfl
            simp only [Act.put, List.setIfInBounds_toArray, List.set_cons_zero, List.set_cons_succ]
            refine wpAnyD_takeW (i := 20) (oi := { dst := some 97, op := Op.move (Operand.tmp 96), type := 4, pos := "law.go:135", after := #[{ on := 19, ground := Ground.data }, { on := 17, ground := Ground.chain }], guard := none }) (v := ?_) rfl (by kernel_rfl) (by kernel_rfl) (by kernel_rfl) (fun _ _ _ h => h) (Or.inl ⟨by rfl, ?_⟩) ?_
            rotate_left
            · intro w hSw
              clear hSw
              go_simp
              all_goals with_reducible rfl
            simp only [Act.put, List.setIfInBounds_toArray, List.set_cons_zero, List.set_cons_succ]
            refine wpAnyD_takeW (i := 21) (oi := { dst := some 98, op := Op.move (Operand.tmp 9), type := 24, pos := "law.go:135", after := #[{ on := 20, ground := Ground.guard }], guard := some (20, false) }) (v := ?_) rfl (by kernel_rfl) (by kernel_rfl) (by kernel_rfl) (fun _ _ _ h => h) (Or.inl ⟨by rfl, ?_⟩) ?_
            rotate_left
            · intro w hSw
              clear hSw
              go_simp
              all_goals with_reducible rfl
            simp only [Act.put, List.setIfInBounds_toArray, List.set_cons_zero, List.set_cons_succ]
            refine wpAnyD_takeW (i := 22) (oi := { dst := some 99, op := Op.fieldAddr 49 (Operand.tmp 12) 1, type := 0, pos := "law.go:135", after := #[{ on := 20, ground := Ground.guard }], guard := some (20, false) }) (v := ?_) rfl (by kernel_rfl) (by kernel_rfl) (by kernel_rfl) (fun _ _ _ h => h) (Or.inl ⟨by rfl, ?_⟩) ?_
            rotate_left
            · intro w hSw
              clear hSw
              go_simp
              all_goals with_reducible rfl
            simp only [Act.put, List.setIfInBounds_toArray, List.set_cons_zero, List.set_cons_succ]
            refine wpAnyD_take (i := 23) (oi := { dst := some 100, op := Op.load 3 (Operand.tmp 99), type := 3, pos := "law.go:135", after := #[{ on := 22, ground := Ground.data }, { on := 20, ground := Ground.guard }], guard := some (20, false) }) (v := ?_) rfl (by kernel_rfl) (by kernel_rfl) (by kernel_rfl) (by kernel_rfl) (by kernel_rfl) (fun _ _ _ h => h) (Or.inl ⟨by rfl, ?_⟩) hS ?_
            rotate_left
            · intro w hSw
              obtain ⟨s0, s1, s2, s3, s4, s5⟩ := hSw
              go_simp
              all_goals with_reducible rfl
            simp only [Act.put, List.setIfInBounds_toArray, List.set_cons_zero, List.set_cons_succ]
            refine wpAnyD_takeW (i := 24) (oi := { dst := some 101, op := Op.fieldAddr 49 (Operand.tmp 12) 2, type := 0, pos := "law.go:135", after := #[{ on := 20, ground := Ground.guard }], guard := some (20, false) }) (v := ?_) rfl (by kernel_rfl) (by kernel_rfl) (by kernel_rfl) (fun _ _ _ h => h) (Or.inl ⟨by rfl, ?_⟩) ?_
            rotate_left
            · intro w hSw
              clear hSw
              go_simp
              all_goals with_reducible rfl
            simp only [Act.put, List.setIfInBounds_toArray, List.set_cons_zero, List.set_cons_succ]
            refine wpAnyD_take (i := 25) (oi := { dst := some 102, op := Op.load 3 (Operand.tmp 101), type := 3, pos := "law.go:135", after := #[{ on := 24, ground := Ground.data }, { on := 20, ground := Ground.guard }], guard := some (20, false) }) (v := ?_) rfl (by kernel_rfl) (by kernel_rfl) (by kernel_rfl) (by kernel_rfl) (by kernel_rfl) (fun _ _ _ h => h) (Or.inl ⟨by rfl, ?_⟩) hS ?_
            rotate_left
            · intro w hSw
              obtain ⟨s0, s1, s2, s3, s4, s5⟩ := hSw
              go_simp
              all_goals with_reducible rfl
            simp only [Act.put, List.setIfInBounds_toArray, List.set_cons_zero, List.set_cons_succ]
            refine wpAnyD_takeW (i := 27) (oi := { dst := some 104, op := Op.move (Operand.tmp 10), type := 61, pos := "law.go:135", after := #[{ on := 20, ground := Ground.guard }], guard := some (20, false) }) (v := ?_) rfl (by kernel_rfl) (by kernel_rfl) (by kernel_rfl) (fun _ _ _ h => h) (Or.inl ⟨by rfl, ?_⟩) ?_
            rotate_left
            · intro w hSw
              clear hSw
              go_simp
              all_goals with_reducible rfl
            simp only [Act.put, List.setIfInBounds_toArray, List.set_cons_zero, List.set_cons_succ]
            refine wpAnyD_takeW (i := 28) (oi := { dst := some 105, op := Op.fieldAddr 49 (Operand.tmp 12) 1, type := 0, pos := "law.go:135", after := #[{ on := 20, ground := Ground.guard }], guard := some (20, false) }) (v := ?_) rfl (by kernel_rfl) (by kernel_rfl) (by kernel_rfl) (fun _ _ _ h => h) (Or.inl ⟨by rfl, ?_⟩) ?_
            rotate_left
            · intro w hSw
              clear hSw
              go_simp
              all_goals with_reducible rfl
            simp only [Act.put, List.setIfInBounds_toArray, List.set_cons_zero, List.set_cons_succ]
            refine wpAnyD_take (i := 29) (oi := { dst := some 106, op := Op.load 3 (Operand.tmp 105), type := 3, pos := "law.go:135", after := #[{ on := 28, ground := Ground.data }, { on := 20, ground := Ground.guard }], guard := some (20, false) }) (v := ?_) rfl (by kernel_rfl) (by kernel_rfl) (by kernel_rfl) (by kernel_rfl) (by kernel_rfl) (fun _ _ _ h => h) (Or.inl ⟨by rfl, ?_⟩) hS ?_
            rotate_left
            · intro w hSw
              obtain ⟨s0, s1, s2, s3, s4, s5⟩ := hSw
              go_simp
              all_goals with_reducible rfl
            simp only [Act.put, List.setIfInBounds_toArray, List.set_cons_zero, List.set_cons_succ]
            refine wpAnyD_takeW (i := 30) (oi := { dst := some 107, op := Op.fieldAddr 49 (Operand.tmp 12) 2, type := 0, pos := "law.go:135", after := #[{ on := 20, ground := Ground.guard }], guard := some (20, false) }) (v := ?_) rfl (by kernel_rfl) (by kernel_rfl) (by kernel_rfl) (fun _ _ _ h => h) (Or.inl ⟨by rfl, ?_⟩) ?_
            rotate_left
            · intro w hSw
              clear hSw
              go_simp
              all_goals with_reducible rfl
            simp only [Act.put, List.setIfInBounds_toArray, List.set_cons_zero, List.set_cons_succ]
            refine wpAnyD_take (i := 31) (oi := { dst := some 108, op := Op.load 3 (Operand.tmp 107), type := 3, pos := "law.go:135", after := #[{ on := 30, ground := Ground.data }, { on := 20, ground := Ground.guard }], guard := some (20, false) }) (v := ?_) rfl (by kernel_rfl) (by kernel_rfl) (by kernel_rfl) (by kernel_rfl) (by kernel_rfl) (fun _ _ _ h => h) (Or.inl ⟨by rfl, ?_⟩) hS ?_
            rotate_left
            · intro w hSw
              obtain ⟨s0, s1, s2, s3, s4, s5⟩ := hSw
              go_simp
              all_goals with_reducible rfl
            simp only [Act.put, List.setIfInBounds_toArray, List.set_cons_zero, List.set_cons_succ]
            clear hS
            refine wpAnyD_one (i := 26) (o := { dst := some 103, op := Op.call { callee := Callee.value (Operand.func 20), args := #[Operand.tmp 98, Operand.tmp 100, Operand.tmp 102], argTypes := #[24, 3, 3] }, type := 34, pos := "law.go:135", after := #[{ on := 21, ground := Ground.data }, { on := 23, ground := Ground.data }, { on := 25, ground := Ground.data }, { on := 20, ground := Ground.chain }, { on := 20, ground := Ground.guard }], guard := some (20, false) }) (by kernel_rfl) rfl (fun K hK => ?_)
            go_simp
            (with_reducible refine Calls.mono (HCU.out) ?_)
            rintro r w14 ⟨v14, S14, rfl, o14, e14⟩
            have O14 := hide o14
            have E14 := hide e14
            have C14 := hide (C13.out.trans (o14.bel.mono C13.out.size))
            obtain ⟨A14, c14, rfl, _⟩ := o14.inn.row.form
            have HCV := hide (rCut_any (RA.out.below C14.out) HRL7.out HG1.out (by omega) a.fr a.en)
            clear o14 e14 HCU
            have hS := HKS.out _ C14.out
            refine hK _ _ (fun _ _ => hS) ?_
            clear hK K
            try simp only [Act.put, List.setIfInBounds_toArray, List.set_cons_zero, List.set_cons_succ]
            clear hS
            refine wpAnyD_one (i := 32) (o := { dst := some 109, op := Op.call { callee := Callee.value (Operand.func 38), args := #[Operand.tmp 104, Operand.tmp 106, Operand.tmp 108], argTypes := #[61, 3, 3] }, type := 34, pos := "law.go:135", after := #[{ on := 27, ground := Ground.data }, { on := 29, ground := Ground.data }, { on := 31, ground := Ground.data }, { on := 26, ground := Ground.chain }, { on := 20, ground := Ground.guard }], guard := some (20, false) }) (by kernel_rfl) rfl (fun K hK => ?_)
            go_simp
            (with_reducible refine Calls.mono (HCV.out) ?_)
            rintro r w15 ⟨v15, S15, rfl, o15, e15⟩
            have C15 := hide (C14.out.trans (o15.bel.mono C14.out.size))
            have f14 := sp_fitG HG1.out E14.out
            have f15 := sp_fitG HG1.out e15
            have HSS := hide (samespans_any S14 S15 _ _ w15 (O14.out.inn.rd.below o15.bel) o15.inn.rd f14.1 f15.1 f14.2 f15.2)
            rw [E14.out, e15, decide_eq_true rfl] at HSS
            obtain ⟨A15, c15, rfl, _⟩ := o15.inn.row.form
            clear o15 e15 f14 f15 HCV
            have hS := HKS.out _ C15.out
            refine hK _ _ (fun _ _ => hS) ?_
            clear hK K
            try simp only [Act.put, List.setIfInBounds_toArray, List.set_cons_zero, List.set_cons_succ]
            clear hS
            refine wpAnyD_one (i := 33) (o := { dst := some 110, op := Op.call { callee := Callee.value (Operand.func 34), args := #[Operand.tmp 103, Operand.tmp 109], argTypes := #[34, 34] }, type := 4, pos := "law.go:135", after := #[{ on := 26, ground := Ground.data }, { on := 32, ground := Ground.data }, { on := 32, ground := Ground.chain }, { on := 20, ground := Ground.guard }], guard := some (20, false) }) (by kernel_rfl) rfl (fun K hK => ?_)
            go_simp
            (with_reducible refine Calls.mono (HSS.out) ?_)
            rintro r w16 ⟨rfl, hq⟩
            have C16 := hide (show Below w10.heap.size w10 w16 from by obtain ⟨q, rfl⟩ := hq; exact C15.out.trans ((below_dN2 q).mono C15.out.size))
            clear hq HSS
            have hS := HKS.out _ C16.out
            refine hK _ _ (fun _ _ => hS) ?_
            clear hK K
            try simp only [Act.put, List.setIfInBounds_toArray, List.set_cons_zero, List.set_cons_succ]
            refine wpAnyD_takeW (i := 34) (oi := { dst := some 111, op := Op.unOp UnOp.not 4 (Operand.tmp 110), type := 4, pos := "law.go:135", after := #[{ on := 33, ground := Ground.data }, { on := 20, ground := Ground.guard }], guard := some (20, false) }) (v := ?_) rfl (by kernel_rfl) (by kernel_rfl) (by kernel_rfl) (fun _ _ _ h => h) (Or.inl ⟨by rfl, ?_⟩) ?_
            rotate_left
            · intro w hSw
              clear hSw
              go_simp
              all_goals with_reducible rfl
            simp only [Act.put, List.setIfInBounds_toArray, List.set_cons_zero, List.set_cons_succ]
            refine wpAnyD_takeW (i := 35) (oi := { dst := some 112, op := Op.pick (Operand.tmp 97) (Operand.const (Value.bool true)) (Operand.tmp 111), type := 4, pos := "law.go:135", after := #[{ on := 20, ground := Ground.data }, { on := 34, ground := Ground.data }], guard := none }) (v := ?_) rfl (by kernel_rfl) (by kernel_rfl) (by kernel_rfl) (fun _ _ _ h => h) (Or.inl ⟨by rfl, ?_⟩) ?_
            rotate_left
            · intro w hSw
              clear hSw
              go_simp
              all_goals with_reducible rfl
            simp only [Act.put, List.setIfInBounds_toArray, List.set_cons_zero, List.set_cons_succ]
            refine wpAnyD_done (by kernel_rfl) ?_ _
            clear hS
            have OE := hide (OA.out.below C16.out)
            have RE := hide ((R7.out.below HBA.out).below C16.out)
            go_wp2_with fail
            go_roundw
            case rel => exact ⟨k + 1, _, by go_num, HLT.out, by rw [← HP1.out]; exact OE.out, RE.out, by rw [← HP1.out]; exact L4K.out⟩
            case measure => have := HLT.out; simp [intOf]; omega
          · have u1 : decide (k < nn) = false := by simpa using hlt
            have u2 : decide ((k : Int) < (nn : Int)) = false := by simp; omega
            have u3 : ¬ (k : Int) < (nn : Int) := by omega
            obtain ⟨v0, R0, hr0, hrl0, _⟩ := hro.ex
            have HR0 := hide hr0
            have HRL := hide (show Like (lsts R0) P by rw [hrl0]; exact hlk)
            obtain ⟨n1, hn1⟩ : ∃ n, n = nextP sameL P x1 x2 := ⟨_, rfl⟩
            obtain ⟨n2, hn2⟩ : ∃ n, n = nextP (sameV x3) P x1 x2 := ⟨_, rfl⟩
            have HNX := hide (obj_next hob hg (by omega) x1 x2)
            rw [← hn1] at HNX
            have HNY := hide (fun (y : World) (hb : Below wr.heap.size wr y) => rNext_any (hr0.below hb) (by rw [hrl0]; exact hlk) hg (by omega) x1 x2 HAT.out)
            rw [← hn1] at HNY
            have HNZ := hide (fun (y : World) (hb : Below wr.heap.size wr y) => obj_nextof (hob.below hb) hg (by omega) x1 x3 x2)
            rw [← hn2] at HNZ
            have HNV := hide (fun (y : World) (hb : Below wr.heap.size wr y) => rNextOf_any (hr0.below hb) (by rw [hrl0]; exact hlk) hg (by omega) x1 x3 x2 HAT.out)
            rw [← hn2] at HNV
            have HCO := hide (fun (y : World) (hb : Below wr.heap.size wr y) => obj_copy (hob.below hb) hg)
            have HSP := hide (fun (y : World) (b2 : Nat) (ho : Obj w y b2 P) => obj_spans ho hg (by omega) x1 x2)
            have HSQ := hide (fun (y : World) (hb : Below wr.heap.size wr y) => rspans_any (hr0.below hb) (by rw [hrl0]; exact hlk) hg (by omega) x1 x2)
            have HFIT := hide (fun (S : List (Sn × Value)) (e : sns S = spP P x1 x2 0) => sp_fit hg e)
            clear hob hro hlk hP hg hlt hk hr0 hrl0 hn1 hn2
            go_wp2_with (first | (go_at_call 22; (with_reducible refine Calls.mono HNX.out ?_); rintro r w2 ⟨rfl, b2⟩; have B2 := hide b2; clear b2) | (go_at_call 39; (with_reducible refine Calls.mono (HNY.out _ B2.out) ?_); rintro r w3 ⟨rfl, b3⟩; have B3 := hide (B2.out.trans (b3.mono B2.out.size)); clear b3) | (go_at_call 30; (with_reducible refine Calls.mono (HNZ.out _ B3.out) ?_); rintro r w4 ⟨rfl, b4⟩; have B4 := hide (B3.out.trans (b4.mono B3.out.size)); clear b4) | (go_at_call 40; (with_reducible refine Calls.mono (HNV.out _ B4.out) ?_); rintro r w5 ⟨rfl, b5⟩; have B5 := hide (B4.out.trans (b5.mono B4.out.size)); clear b5) | (go_at_call 41; (with_reducible refine Calls.mono (HCO.out _ B5.out) ?_); rintro r w6 ⟨b6, rfl, o6, k6⟩; have O6 := hide o6; have B6 := hide (B5.out.trans (k6.mono B5.out.size)); clear o6 k6) | (go_at_call 18; (with_reducible refine Calls.mono (HSP.out _ _ O6.out) ?_); rintro r w7 ⟨v7, S7, rfl, o7, e7⟩; have O7 := hide o7; have E7 := hide e7; have B7 := hide (B6.out.trans (o7.bel.mono B6.out.size)); obtain ⟨A7, c7, rfl, _⟩ := o7.inn.row.form; clear o7 e7) | (go_at_call 35; (with_reducible refine Calls.mono (HSQ.out _ B7.out) ?_); rintro r w8 ⟨v8, S8, rfl, o8, e8⟩; have B8 := hide (B7.out.trans (o8.bel.mono B7.out.size)); have HSS := hide (samespans_any S7 S8 _ _ w8 (O7.out.inn.rd.below o8.bel) o8.inn.rd (HFIT.out _ E7.out).1 (HFIT.out _ e8).1 (HFIT.out _ E7.out).2 (HFIT.out _ e8).2); rw [E7.out, e8, decide_eq_true rfl] at HSS; obtain ⟨A8, c8, rfl, _⟩ := o8.inn.row.form; clear o8 e8) | (go_at_call 34; (with_reducible refine Calls.mono HSS.out ?_); rintro r w9 ⟨rfl, hq⟩; have B9 := hide (show Below wr.heap.size wr w9 from by obtain ⟨q, rfl⟩ := hq; exact B8.out.trans ((below_dN2 q).mono B8.out.size)); clear hq))
            go_ret
            exact ⟨rfl, HO.out.bel.trans (B9.out.mono HO.out.bel.size)⟩
end Go.Proofs.Ytgiogmbopiblmaa
