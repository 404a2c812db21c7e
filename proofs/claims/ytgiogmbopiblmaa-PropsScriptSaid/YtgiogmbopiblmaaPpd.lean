/- A list with a property, in memory. No condition but those written. -/
import Derived.Test.YtgiogmbopiblmaaPpb
import Derived.Deep.RegionLaw
namespace Go.Proofs.Ytgiogmbopiblmaa
open Go.RowKit

theorem info_pr : (Try.prog.info? 36).map (fun i => (i.zero, i.size, i.bytes)) = some (some (.agg #[.int .i64 0, .int .i64 0, .int .i64 0]), 3, 24) := by kernel_rfl
theorem withP_at {x : Pr} : ∀ (i : Nat) {l : List Pr}, (∀ y ∈ l.take i, y.1 < x.1) → withP l x = l.take i ++ withP (l.drop i) x
  | 0, l, _ => by simp
  | i + 1, [], _ => by simp
  | i + 1, z :: l, h => by
      have h1 : z.1 < x.1 := h z (by simp)
      have h2 := withP_at i (l := l) fun y hy => h y (by simp [hy])
      rw [List.take_succ_cons, List.drop_succ_cons, List.cons_append, ← h2]
      simp only [withP]
      rw [if_pos h1]
theorem prC_arr (x : Pr) : (#[.int .i64 x.1, .int .i64 x.2.1, .int .i64 x.2.2] : Array Value).toList = prC x := rfl
/-- Within with: the property's box, the list so far. -/
structure WIn (W w : World) (x : Pr) (v' : Value) (l : List Pr) (i : Nat) : Prop where
  bel : Below W.heap.size W w
  bx : Blk w W.heap.size 36 #[.int .i64 x.1, .int .i64 x.2.1, .int .i64 x.2.2]
  sl : Sl w 36 3 v' i (rows prC (l.take i))
  own : ∀ g, v'.ownBlock = some g → W.heap.size + 1 ≤ g
theorem Rd.cutIf {w : World} {g off n c k : Nat} {xs : List Value} (h : Rd w (.slice (some ⟨g, off, none⟩) n c) k n xs) {j : Nat} (hj : j ≤ n) (hn : n ≤ c) (d : Nat) : Rd w (.slice (if c = j then some ⟨g, off, none⟩ else some ⟨g, off + j * k, none⟩) (n - j) d) k (n - j) (xs.drop (j * k)) := by
  by_cases e : c = j
  · rw [if_pos e]
    obtain ⟨_, _, _, hl, _⟩ := h
    exact ⟨_, _, rfl, by rw [List.length_drop, hl, Nat.sub_mul], fun hp => by omega⟩
  · rw [if_neg e]
    exact h.cutF hj d
theorem own_put {W w5 w6 : World} {v5 v6 : Value} (hb : Below W.heap.size W w5) (hg : ∀ g, v5.ownBlock = some g → W.heap.size ≤ g) (ho : Only (fun g => v5.ownBlock = some g) w5 w6) (hv : v6.ownBlock = v5.ownBlock ∨ v6.ownBlock = some w5.heap.size) : Below W.heap.size W w6 ∧ ∀ g, v6.ownBlock = some g → W.heap.size ≤ g := by
  refine ⟨hb.trans (ho.below hb.size hg), fun g h => ?_⟩
  rcases hv with e | e
  · exact hg g (e ▸ h)
  · rw [e] at h
    cases h
    exact hb.size
theorem WIn.put {W w3 w5 : World} {x : Pr} {v v5 : Value} {l : List Pr} {i : Nat} {cs : Array Value} {t : TypeId} (h : WIn W w3 x v l i) (ho : Only (fun g => v.ownBlock = some g) (w3.drew.alloc (.cells cs t)) w5) (hv : v5.ownBlock = v.ownBlock ∨ v5.ownBlock = some (w3.drew.alloc (.cells cs t)).heap.size) : Below W.heap.size W w5 ∧ ∀ g, v5.ownBlock = some g → W.heap.size ≤ g :=
  own_put (h.bel.drew.alloc h.bel.drew.size _) (fun g hg => by have := h.own g hg; omega) ho hv
section
variable {W w w' : World} {x : Pr} {v v' : Value} {l : List Pr} {i : Nat}
theorem WIn.more (h : WIn W w x v' l i) {y : Pr} (hy : l[i]? = some y) {A2 : Option Addr} {c2 : Nat} (hs : Sl w' 36 3 (.slice A2 (i + 1) c2) (i + 1) (rows prC (l.take i) ++ prC y)) (ho : Only (fun g => v'.ownBlock = some g) (w.alloc (.cells (prC y).toArray 36)) w') (hv : (Value.slice A2 (i + 1) c2).ownBlock = v'.ownBlock ∨ (Value.slice A2 (i + 1) c2).ownBlock = some (w.heap.size + 1)) : WIn W w' x (.slice A2 (i + 1) c2) l (i + 1) := by
  have hlt := h.bx.lt
  have hsz := h.bel.size
  have ho2 : Only (fun g => v'.ownBlock = some g) w w' := ((Only.refl _ w).alloc _).trans ho
  refine ⟨h.bel.trans (ho2.below hsz fun g hg => by have := h.own g hg; omega), h.bx.only ho2 fun e => by have := h.own _ e; omega, ?_, fun g hg => ?_⟩
  · rw [List.take_add_one, hy]
    show Sl _ _ _ _ _ (rows prC (l.take i ++ [y]))
    rw [rows_append, rows_one]
    exact hs
  · rcases hv with e | e
    · exact h.own g (e ▸ hg)
    · rw [e] at hg
      cases hg
      omega
set_option maxRecDepth 100000 in
set_option maxHeartbeats 8000000 in
theorem with_some (x : Pr) (h : PrS w v l) (hl : l.length ≤ 100000) (hne : l ≠ []) :
    Calls Try.prog 47 #[v, .agg #[.int .i64 x.1, .int .i64 x.2.1, .int .i64 x.2.2]] w fun e w' => ∃ v', e = .returned v' ∧ PrS w' v' (withP l x) ∧ (∀ g, v'.ownBlock = some g → w.heap.size ≤ g) ∧ Below w.heap.size w w' := by
  obtain ⟨i0, hi, hz0, hz1, hz2⟩ := info_parts info_pr
  obtain ⟨A, c, rfl, hlc, hcm⟩ := h.form
  unfold maxLen at hcm
  have HC := hide hcm
  clear hcm
  have hpos : 0 < l.length := List.length_pos_iff.2 hne
  clear hne
  have HLC := hide hlc
  obtain ⟨g1, o1, rfl⟩ : ∃ g1 o1, A = some ⟨g1, o1, none⟩ := by
    obtain ⟨A', c', e1, _, e2⟩ := h.rd
    obtain ⟨b, o, e3, _⟩ := e2 hpos
    injection e1 with e4 _ _
    exact ⟨b, o, e4.trans e3⟩
  have hl2 : (l.length : Int) ≤ 100000 := by omega
  have hlc2 : (l.length : Int) ≤ (c : Int) := by omega
  have HMK := hide (fun W => run_make (P := Try.prog) (w := W) 32 36 i0 _ Try.underlying32 hi hz0 .i64 .i64 0 ((l.length : Int) + 1) (by omega) (by omega) (by rw [hz2]; omega) (by omega))
  rw [hz1, show (0 : Int).toNat = 0 from rfl, show ((l.length : Int) + 1).toNat = l.length + 1 by omega] at HMK
  have hcs := size_madeCells (Value.agg #[.int .i64 0, .int .i64 0, .int .i64 0]).cells ((l.length + 1) * 3)
  obtain ⟨cs, hcs2⟩ : ∃ cs, cs = madeCells (Value.agg #[.int .i64 0, .int .i64 0, .int .i64 0]).cells ((l.length + 1) * 3) := ⟨_, rfl⟩
  rw [← hcs2] at HMK hcs
  have hmk := HMK.out
  have HI := hide hi
  have HZ := hide hz0
  have HZ1 := hide hz1
  have HZ2 := hide hz2
  have hst : WIn w ((w.alloc (.cells #[.int .i64 x.1, .int .i64 x.2.1, .int .i64 x.2.2] 36)).alloc (.cells cs 36)) x (.slice (some ⟨w.heap.size + 1, 0, none⟩) 0 (l.length + 1)) l 0 := by
    refine ⟨((Below.refl _ w).alloc (Nat.le_refl _) _).alloc (by simp) _, (Blk.new w _ _).alloc _, ?_, fun g hg => by have e : some (w.heap.size + 1) = some g := hg; cases e; omega⟩
    have := Sl.new (w.alloc (.cells #[.int .i64 x.1, .int .i64 x.2.1, .int .i64 x.2.2] 36)) 36 3 cs 0 (l.length + 1) (Nat.zero_le _) (by unfold maxLen; omega) (by rw [hcs]; exact Nat.le_refl _)
    simpa [rows] using this
  have HST := hide hst
  have H := hide h
  clear hcs hcs2 hst h HMK
  go_enter Try.func47, Try.ntmps47
  go_wp2
  go_loopw [5, 6] (fun ov iv wr => ∃ i : Nat, iv = .int .i64 (i : Int) ∧ i ≤ l.length ∧ (∀ y ∈ l.take i, y.1 < x.1) ∧ WIn w wr x ov l i) (fun _ iv _ => l.length - (intOf iv).toNat)
  case atStart => exact ⟨0, rfl, Nat.zero_le _, by simp, HST.out⟩
  case round =>
    obtain ⟨i, rfl, hil, hn, hW⟩ := hrel
    obtain ⟨A1, c1, rfl, _⟩ := hW.sl.form
    have HW := hide hW
    have HN := hide hn
    have b0 : wr.cell? ⟨w.heap.size, 0, none⟩ = some (.int .i64 x.1) := hW.bx.cell 0
    have b1 : wr.cell? ⟨w.heap.size, 1, none⟩ = some (.int .i64 x.2.1) := hW.bx.cell 1
    have b2 : wr.cell? ⟨w.heap.size, 2, none⟩ = some (.int .i64 x.2.2) := hW.bx.cell 2
    have HSL := hide (show Sl wr.drew 36 3 (.slice A1 i c1) i (rows prC (l.take i)) from hW.sl.drew)
    have hi2 : (i : Int) ≤ 100000 := by omega
    by_cases hlt : i < l.length
    · have z1 : decide ((i : Int) < (l.length : Int)) = true := by simp; omega
      have z2 : (i : Int) < (l.length : Int) := by omega
      have z3 : (i : Int) ≤ (l.length : Int) := by omega
      obtain ⟨y, hy⟩ : ∃ y, l[i]? = some y := ⟨_, List.getElem?_eq_getElem hlt⟩
      obtain ⟨g2, o2, d2', hv1, hc1⟩ := Rd.fld prC_len ((Sl.rd H.out).belowN hW.bel) (by omega)
      obtain ⟨rfl, rfl, rfl⟩ : g1 = g2 ∧ o1 = o2 ∧ c = d2' := by
        injection hv1 with e1 _ e2
        injection e1 with e1
        injection e1 with e3 e4
        exact ⟨e3, e4, e2⟩
      have p0 : wr.cell? ⟨g1, o1 + i * 3, none⟩ = some (.int .i64 y.1) := hc1 i y 0 _ hy rfl
      have p1 : wr.cell? ⟨g1, o1 + i * 3 + 1, none⟩ = some (.int .i64 y.2.1) := hc1 i y 1 _ hy rfl
      have p2 : wr.cell? ⟨g1, o1 + i * 3 + 2, none⟩ = some (.int .i64 y.2.2) := hc1 i y 2 _ hy rfl
      have HY := hide hy
      have HLT := hide hlt
      have HLE := hide (show i + 1 ≤ l.length from hlt)
      clear hy hc1 hv1 hlt hn hW hil
      by_cases hyx : y.1 < x.1
      · have q1 : decide (y.1 < x.1) = true := by simpa using hyx
        have HYX := hide hyx
        clear hyx
        go_wp2
        go_region
        go_wp2_with (at_builtin; refine wpList_append_sl rfl (.tmp 27) (.tmp 32) 32 rfl 36 i0 (.agg #[.int .i64 0, .int .i64 0, .int .i64 0]) 3 24 Try.underlying32 hi hz0 hz1 hz2 rfl _ i (rows prC (l.take i)) rfl (HSL.out.alloc _) _ rfl 1 (prC y) (rd_elem wr.drew 36 3 _ rfl) (prC_one _) ?b1 ?b2 ?_)
        case b1 => unfold maxLen; omega
        case b2 => omega
        intro v2 w2 hs2 ho2 hv2
        obtain ⟨A2, c2, rfl, -⟩ := hs2.form
        have HM := hide (WIn.more (w := wr.drew) ⟨HW.out.bel.drew, HW.out.bx.drew, HW.out.sl.drew, HW.out.own⟩ HY.out hs2 ho2 (by simpa using hv2))
        clear hs2 ho2 hv2
        go_wp2
        go_roundw
        case rel => exact ⟨i + 1, by go_num, HLT.out, fun z hz => by
          rw [List.take_add_one, HY.out] at hz
          rcases List.mem_append.1 hz with hz | hz
          · exact HN.out z hz
          · have : z = y := by simpa using hz
            exact this ▸ HYX.out, HM.out⟩
        case measure => have := HLT.out; simp [intOf]; omega
      · have q1 : decide (y.1 < x.1) = false := by simpa using hyx
        have HDR := hide (show l.drop i = y :: l.drop (i + 1) from by
          rw [List.drop_eq_getElem_cons HLT.out]
          have e := HY.out
          rw [List.getElem?_eq_getElem HLT.out] at e
          injection e with e
          rw [e])
        have z4 : (i : Int) + 1 ≤ (l.length : Int) := by omega
        by_cases hye : y.1 = x.1
        · have q2 : (y.1 == x.1) = true := by simpa using hye
          have HR := hide (show withP l x = l.take i ++ [x] ++ l.drop (i + 1) from by
            rw [withP_at i HN.out, HDR.out]
            simp only [withP]
            rw [if_neg hyx, if_pos hye]
            simp)
          clear hyx hye
          go_wp2
          go_region
          go_wp2
          go_region
          go_wp2_with fail
          have t1 : ((i : Int) + 1).toNat = (i + 1) := by omega
          have t2 : (0 : Int) ≤ (i : Int) + 1 := by omega
          have t3 : (c : Int) ≤ 9223372036854775807 := by have := HC.out; omega
          have t4 : (i : Int) + 1 ≤ (l.length : Int) := by omega
          have t5 : (i : Int) + 1 ≤ (c : Int) := by omega
          obtain ⟨w3, hw3⟩ : ∃ w3, w3 = wr.drew.drew := ⟨_, rfl⟩
          rw [← hw3]
          have d0 : w3.cell? ⟨w.heap.size, 0, none⟩ = some (.int .i64 x.1) := by rw [hw3]; exact b0
          have d1 : w3.cell? ⟨w.heap.size, 1, none⟩ = some (.int .i64 x.2.1) := by rw [hw3]; exact b1
          have d2 : w3.cell? ⟨w.heap.size, 2, none⟩ = some (.int .i64 x.2.2) := by rw [hw3]; exact b2
          have HW3 := hide (show WIn w w3 x (.slice A1 i c1) l i from by rw [hw3]; exact ⟨HW.out.bel.drew.drew, HW.out.bx.drew.drew, HW.out.sl.drew.drew, HW.out.own⟩)
          have HS3 := hide (HW3.out.sl.drew.alloc (.cells (prC x).toArray 36))
          clear hw3
          have HRD := hide (fun W (hW : Below w.heap.size w W) => (show Rd W (.slice (if c = i + 1 then some ⟨g1, o1, none⟩ else some ⟨g1, o1 + (i + 1) * 3, none⟩) (l.length - (i + 1)) (c - (i + 1))) 3 (l.length - (i + 1)) (rows prC (l.drop (i + 1))) from by
            rw [← rows_drop prC_len]
            have h := (Sl.rd H.out).belowN hW
            exact h.cutIf (by have := HLE.out; omega) HLC.out _))
          go_region_law (first | (refine step_append_sl rfl (.tmp 51) (.tmp 53) 32 rfl 36 i0 _ 3 24 Try.underlying32 HI.out HZ.out HZ1.out HZ2.out rfl (.slice A1 i c1) i (rows prC (l.take i)) rfl HS3.out _ rfl 1 _ (rd_elem w3.drew 36 3 (prC x) rfl) (prC_one x) (by unfold maxLen; omega) (by omega) ?_; intro v5 w5 hs5 ho5 hv5; obtain ⟨A5, c5, rfl, _⟩ := hs5.form; have hp5 := HW3.out.put ho5 hv5; have HB5 := hide hp5.1; have HO5 := hide hp5.2; have HS5 := hide hs5; clear hs5 ho5 hv5 hp5) | (refine step_append_sl rfl (.tmp 54) (.tmp 57) 32 rfl 36 i0 _ 3 24 Try.underlying32 HI.out HZ.out HZ1.out HZ2.out rfl (.slice A5 (i + 1) c5) (i + 1) (rows prC (l.take i) ++ prC x) rfl HS5.out (.slice (if c = i + 1 then some ⟨g1, o1, none⟩ else some ⟨g1, o1 + (i + 1) * 3, none⟩) (l.length - (i + 1)) (c - (i + 1))) rfl (l.length - (i + 1)) (rows prC (l.drop (i + 1))) (HRD.out w5 HB5.out) (rows_cells fun z _ => prC_one z) (by unfold maxLen; omega) (by omega) ?_; intro v6 w6 hs6 ho6 hv6; have HS6 := hide hs6; have hp6 := own_put HB5.out HO5.out ho6 hv6; have HB6 := hide hp6.1; have HO6 := hide hp6.2; clear hs6 ho6 hv6 hp6))
          all_goals go_wp2
          all_goals
            go_ret
            have hfin : PrS w6 v6 (withP l x) := by
              unfold PrS
              have h := HS6.out
              have e : (l.take i ++ [x] ++ l.drop (i + 1)).length = i + 1 + (l.length - (i + 1)) := by simp; omega
              rw [HR.out, rows_append, rows_append, rows_one, e]
              exact h
            exact ⟨_, rfl, hfin, HO6.out, HB6.out⟩
        · have q2 : (y.1 == x.1) = false := by simpa using hye
          have HR := hide (show withP l x = l.take i ++ [x] ++ l.drop i from by
            rw [withP_at i HN.out, HDR.out]
            simp only [withP]
            rw [if_neg hyx, if_neg hye]
            simp)
          clear hyx hye
          go_wp2
          go_region
          go_wp2
          go_region
          go_wp2_with fail
          have t1 : ((i : Int)).toNat = i := by omega
          have t2 : (0 : Int) ≤ (i : Int) := by omega
          have t3 : (c : Int) ≤ 9223372036854775807 := by have := HC.out; omega
          have t4 : (i : Int) ≤ (l.length : Int) := by omega
          have t5 : (i : Int) ≤ (c : Int) := by omega
          have hcj : ¬ c = i := by omega
          have hcj2 : ¬ i = c := fun e => hcj e.symm
          obtain ⟨w3, hw3⟩ : ∃ w3, w3 = wr.drew.drew := ⟨_, rfl⟩
          rw [← hw3]
          have d0 : w3.cell? ⟨w.heap.size, 0, none⟩ = some (.int .i64 x.1) := by rw [hw3]; exact b0
          have d1 : w3.cell? ⟨w.heap.size, 1, none⟩ = some (.int .i64 x.2.1) := by rw [hw3]; exact b1
          have d2 : w3.cell? ⟨w.heap.size, 2, none⟩ = some (.int .i64 x.2.2) := by rw [hw3]; exact b2
          have HW3 := hide (show WIn w w3 x (.slice A1 i c1) l i from by rw [hw3]; exact ⟨HW.out.bel.drew.drew, HW.out.bx.drew.drew, HW.out.sl.drew.drew, HW.out.own⟩)
          have HS3 := hide (HW3.out.sl.drew.alloc (.cells (prC x).toArray 36))
          clear hw3
          have HRD := hide (fun W (hW : Below w.heap.size w W) => (show Rd W (.slice (some ⟨g1, o1 + i * 3, none⟩) (l.length - i) (c - i)) 3 (l.length - i) (rows prC (l.drop i)) from by
            rw [← rows_drop prC_len]
            have h := (Sl.rd H.out).belowN hW
            exact h.cutF (by have := HLE.out; omega) _))
          go_region_law (first | (refine step_append_sl rfl (.tmp 51) (.tmp 53) 32 rfl 36 i0 _ 3 24 Try.underlying32 HI.out HZ.out HZ1.out HZ2.out rfl (.slice A1 i c1) i (rows prC (l.take i)) rfl HS3.out _ rfl 1 _ (rd_elem w3.drew 36 3 (prC x) rfl) (prC_one x) (by unfold maxLen; omega) (by omega) ?_; intro v5 w5 hs5 ho5 hv5; obtain ⟨A5, c5, rfl, _⟩ := hs5.form; have hp5 := HW3.out.put ho5 hv5; have HB5 := hide hp5.1; have HO5 := hide hp5.2; have HS5 := hide hs5; clear hs5 ho5 hv5 hp5) | (refine step_append_sl rfl (.tmp 54) (.tmp 57) 32 rfl 36 i0 _ 3 24 Try.underlying32 HI.out HZ.out HZ1.out HZ2.out rfl (.slice A5 (i + 1) c5) (i + 1) (rows prC (l.take i) ++ prC x) rfl HS5.out (.slice (some ⟨g1, o1 + i * 3, none⟩) (l.length - i) (c - i)) rfl (l.length - i) (rows prC (l.drop i)) (HRD.out w5 HB5.out) (rows_cells fun z _ => prC_one z) (by unfold maxLen; omega) (by omega) ?_; intro v6 w6 hs6 ho6 hv6; have HS6 := hide hs6; have hp6 := own_put HB5.out HO5.out ho6 hv6; have HB6 := hide hp6.1; have HO6 := hide hp6.2; clear hs6 ho6 hv6 hp6))
          all_goals go_wp2
          all_goals
            go_ret
            have hfin : PrS w6 v6 (withP l x) := by
              unfold PrS
              have h := HS6.out
              have e : (l.take i ++ [x] ++ l.drop i).length = i + 1 + (l.length - i) := by simp; omega
              rw [HR.out, rows_append, rows_append, rows_one, e]
              exact h
            exact ⟨_, rfl, hfin, HO6.out, HB6.out⟩
    · have z1 : decide ((i : Int) < (l.length : Int)) = false := by simp; omega
      have z5 : decide (i < l.length) = false := by simpa using hlt
      have HLE := hide (show i ≤ l.length from hil)
      have z3 : (i : Int) = (l.length : Int) := by omega
      have HR := hide (show withP l x = l.take i ++ [x] ++ l.drop i from by
        rw [withP_at i hn, List.drop_eq_nil_of_le (by omega)]
        simp [withP])
      clear hlt hn hW
      have hil2 : (i : Int) ≤ (l.length : Int) := by omega
      clear z3 hil
      go_wp2
      go_region
      go_wp2
      go_region
      go_wp2_with fail
      have t1 : ((i : Int)).toNat = i := by omega
      have t2 : (0 : Int) ≤ (i : Int) := by omega
      have t3 : (c : Int) ≤ 9223372036854775807 := by have := HC.out; omega
      have t4 : (i : Int) ≤ (l.length : Int) := by omega
      have t5 : (i : Int) ≤ (c : Int) := by omega
      obtain ⟨w3, hw3⟩ : ∃ w3, w3 = wr.drew.drew := ⟨_, rfl⟩
      rw [← hw3]
      have d0 : w3.cell? ⟨w.heap.size, 0, none⟩ = some (.int .i64 x.1) := by rw [hw3]; exact b0
      have d1 : w3.cell? ⟨w.heap.size, 1, none⟩ = some (.int .i64 x.2.1) := by rw [hw3]; exact b1
      have d2 : w3.cell? ⟨w.heap.size, 2, none⟩ = some (.int .i64 x.2.2) := by rw [hw3]; exact b2
      have HW3 := hide (show WIn w w3 x (.slice A1 i c1) l i from by rw [hw3]; exact ⟨HW.out.bel.drew.drew, HW.out.bx.drew.drew, HW.out.sl.drew.drew, HW.out.own⟩)
      have HS3 := hide (HW3.out.sl.drew.alloc (.cells (prC x).toArray 36))
      clear hw3
      have HRD := hide (fun W (hW : Below w.heap.size w W) => (show Rd W (.slice (if c = i then some ⟨g1, o1, none⟩ else some ⟨g1, o1 + i * 3, none⟩) (l.length - i) (c - i)) 3 (l.length - i) (rows prC (l.drop i)) from by
        rw [← rows_drop prC_len]
        have h := (Sl.rd H.out).belowN hW
        exact h.cutIf (by have := HLE.out; omega) HLC.out _))
      go_region_law (first | (refine step_append_sl rfl (.tmp 51) (.tmp 53) 32 rfl 36 i0 _ 3 24 Try.underlying32 HI.out HZ.out HZ1.out HZ2.out rfl (.slice A1 i c1) i (rows prC (l.take i)) rfl HS3.out _ rfl 1 _ (rd_elem w3.drew 36 3 (prC x) rfl) (prC_one x) (by unfold maxLen; omega) (by omega) ?_; intro v5 w5 hs5 ho5 hv5; obtain ⟨A5, c5, rfl, _⟩ := hs5.form; have hp5 := HW3.out.put ho5 hv5; have HB5 := hide hp5.1; have HO5 := hide hp5.2; have HS5 := hide hs5; clear hs5 ho5 hv5 hp5) | (refine step_append_sl rfl (.tmp 54) (.tmp 57) 32 rfl 36 i0 _ 3 24 Try.underlying32 HI.out HZ.out HZ1.out HZ2.out rfl (.slice A5 (i + 1) c5) (i + 1) (rows prC (l.take i) ++ prC x) rfl HS5.out (.slice (if c = i then some ⟨g1, o1, none⟩ else some ⟨g1, o1 + i * 3, none⟩) (l.length - i) (c - i)) rfl (l.length - i) (rows prC (l.drop i)) (HRD.out w5 HB5.out) (rows_cells fun z _ => prC_one z) (by unfold maxLen; omega) (by omega) ?_; intro v6 w6 hs6 ho6 hv6; have HS6 := hide hs6; have hp6 := own_put HB5.out HO5.out ho6 hv6; have HB6 := hide hp6.1; have HO6 := hide hp6.2; clear hs6 ho6 hv6 hp6))
      all_goals go_wp2
      all_goals
        go_ret
        have hfin : PrS w6 v6 (withP l x) := by
          unfold PrS
          have h := HS6.out
          have e : (l.take i ++ [x] ++ l.drop i).length = i + 1 + (l.length - i) := by simp; omega
          rw [HR.out, rows_append, rows_append, rows_one, e]
          exact h
        exact ⟨_, rfl, hfin, HO6.out, HB6.out⟩
set_option maxRecDepth 100000 in
set_option maxHeartbeats 8000000 in
theorem with_none (x : Pr) (w : World) :
    Calls Try.prog 47 #[.slice none 0 0, .agg #[.int .i64 x.1, .int .i64 x.2.1, .int .i64 x.2.2]] w fun e w' => ∃ v', e = .returned v' ∧ PrS w' v' [x] ∧ (∀ g, v'.ownBlock = some g → w.heap.size ≤ g) ∧ Below w.heap.size w w' := by
  obtain ⟨i0, hi, hz0, hz1, hz2⟩ := info_parts info_pr
  have HMK := hide (fun W => run_make (P := Try.prog) (w := W) 32 36 i0 _ Try.underlying32 hi hz0 .i64 .i64 0 1 (by omega) (by omega) (by rw [hz2]; omega) (by omega))
  rw [hz1, show (0 : Int).toNat = 0 from rfl, show (1 : Int).toNat = 1 from rfl] at HMK
  have hcs := size_madeCells (Value.agg #[.int .i64 0, .int .i64 0, .int .i64 0]).cells (1 * 3)
  obtain ⟨cs, hcs2⟩ : ∃ cs, cs = madeCells (Value.agg #[.int .i64 0, .int .i64 0, .int .i64 0]).cells (1 * 3) := ⟨_, rfl⟩
  rw [← hcs2] at HMK hcs
  have hmk := HMK.out
  have HI := hide hi
  have HZ := hide hz0
  have HZ1 := hide hz1
  have HZ2 := hide hz2
  have hst : WIn w ((w.alloc (.cells #[.int .i64 x.1, .int .i64 x.2.1, .int .i64 x.2.2] 36)).alloc (.cells cs 36)) x (.slice (some ⟨w.heap.size + 1, 0, none⟩) 0 1) [] 0 := by
    refine ⟨((Below.refl _ w).alloc (Nat.le_refl _) _).alloc (by simp) _, (Blk.new w _ _).alloc _, ?_, fun g hg => by have e : some (w.heap.size + 1) = some g := hg; cases e; omega⟩
    have := Sl.new (w.alloc (.cells #[.int .i64 x.1, .int .i64 x.2.1, .int .i64 x.2.2] 36)) 36 3 cs 0 1 (Nat.zero_le _) (by unfold maxLen; omega) (by rw [hcs]; exact Nat.le_refl _)
    simpa [rows] using this
  have HST := hide hst
  have HR := hide (show withP [] x = ([] : List Pr).take 0 ++ [x] ++ [] from rfl)
  clear hcs hcs2 hst HMK
  go_enter Try.func47, Try.ntmps47
  go_wp2
  go_loopw [5, 6] (fun ov iv wr => iv = .int .i64 0 ∧ ov = .slice (some ⟨w.heap.size + 1, 0, none⟩) 0 1 ∧ WIn w wr x ov [] 0) (fun _ _ _ => 0)
  case atStart => exact ⟨rfl, rfl, HST.out⟩
  case round =>
    obtain ⟨rfl, rfl, hW⟩ := hrel
    have HW := hide hW
    have b0 : wr.cell? ⟨w.heap.size, 0, none⟩ = some (.int .i64 x.1) := hW.bx.cell 0
    have b1 : wr.cell? ⟨w.heap.size, 1, none⟩ = some (.int .i64 x.2.1) := hW.bx.cell 1
    have b2 : wr.cell? ⟨w.heap.size, 2, none⟩ = some (.int .i64 x.2.2) := hW.bx.cell 2
    clear hW
    go_wp2
    go_region
    go_wp2
    go_region
    go_wp2_with fail
    obtain ⟨w3, hw3⟩ : ∃ w3, w3 = wr.drew.drew := ⟨_, rfl⟩
    rw [← hw3]
    have d0 : w3.cell? ⟨w.heap.size, 0, none⟩ = some (.int .i64 x.1) := by rw [hw3]; exact b0
    have d1 : w3.cell? ⟨w.heap.size, 1, none⟩ = some (.int .i64 x.2.1) := by rw [hw3]; exact b1
    have d2 : w3.cell? ⟨w.heap.size, 2, none⟩ = some (.int .i64 x.2.2) := by rw [hw3]; exact b2
    have HW3 := hide (show WIn w w3 x (.slice (some ⟨w.heap.size + 1, 0, none⟩) 0 1) [] 0 from by rw [hw3]; exact ⟨HW.out.bel.drew.drew, HW.out.bx.drew.drew, HW.out.sl.drew.drew, HW.out.own⟩)
    have HS3 := hide (HW3.out.sl.drew.alloc (.cells (prC x).toArray 36))
    clear hw3
    go_region_law (first | (refine step_append_sl rfl (.tmp 51) (.tmp 53) 32 rfl 36 i0 _ 3 24 Try.underlying32 HI.out HZ.out HZ1.out HZ2.out rfl (.slice (some ⟨w.heap.size + 1, 0, none⟩) 0 1) 0 (rows prC (([] : List Pr).take 0)) rfl HS3.out _ rfl 1 _ (rd_elem w3.drew 36 3 (prC x) rfl) (prC_one x) (by unfold maxLen; omega) (by omega) ?_; intro v5 w5 hs5 ho5 hv5; obtain ⟨A5, c5, rfl, _⟩ := hs5.form; have hp5 := HW3.out.put ho5 hv5; have HB5 := hide hp5.1; have HO5 := hide hp5.2; have HS5 := hide hs5; clear hs5 ho5 hv5 hp5) | (refine step_append_sl rfl (.tmp 54) (.tmp 57) 32 rfl 36 i0 _ 3 24 Try.underlying32 HI.out HZ.out HZ1.out HZ2.out rfl (.slice A5 1 c5) 1 (rows prC (([] : List Pr).take 0) ++ prC x) rfl HS5.out (.slice none 0 0) rfl 0 [] (Rd.nil _ _) (by simp) (by unfold maxLen; omega) (by omega) ?_; intro v6 w6 hs6 ho6 hv6; have HS6 := hide hs6; have hp6 := own_put HB5.out HO5.out ho6 hv6; have HB6 := hide hp6.1; have HO6 := hide hp6.2; clear hs6 ho6 hv6 hp6))
    all_goals go_wp2
    all_goals
      go_ret
      have hfin : PrS w6 v6 ([x]) := by
        unfold PrS
        have h := HS6.out
        have e : [x].length = 1 := rfl
        rw [rows_one, e]
        simpa [rows] using h
      exact ⟨_, rfl, hfin, HO6.out, HB6.out⟩
end
end Go.Proofs.Ytgiogmbopiblmaa
