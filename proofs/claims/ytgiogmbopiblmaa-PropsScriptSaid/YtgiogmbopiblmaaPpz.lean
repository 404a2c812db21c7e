/- Spans, Cut. No condition but those written. -/
import Derived.Test.YtgiogmbopiblmaaPpy
namespace Go.Proofs.Ytgiogmbopiblmaa
open Go.RowKit

/-- A span: where it begins, where it ends, what it has. -/
structure Sn where
  lo : Int
  hi : Int
  pr : List Pr
def snC (s : Sn × Value) : List Value := [.int .i64 s.1.lo, .int .i64 s.1.hi, s.2]
theorem snC_len (s : Sn × Value) : (snC s).length = 3 := rfl
theorem info_sn : (Try.prog.info? 38).map (fun i => (i.zero, i.size, i.bytes)) = some (some (.agg #[.int .i64 0, .int .i64 0, .slice none 0 0]), 3, 40) := by kernel_rfl
theorem snC_one {s : Sn × Value} (h : s.2.oneCell' = true) : ∀ u ∈ snC s, u.oneCell' = true := by
  intro u hu
  simp only [snC, List.mem_cons, List.not_mem_nil, or_false] at hu
  rcases hu with rfl | rfl | rfl
  · rfl
  · rfl
  · exact h
theorem rd_sn (w : World) (p : Sn × Value) : Rd (w.alloc (.cells (snC p).toArray 38)) (.slice (some ⟨w.heap.size, 0, none⟩) 1 1) 3 1 (snC p) := rd_elem w 38 3 (snC p) rfl
/-- Spans of the call's own, in memory. -/
structure SnAt (W : World) (v : Value) (S : List (Sn × Value)) : Prop where
  row : Sl W 38 3 v S.length (rows snC S)
  inn : ∀ s ∈ S, PrS W s.2 s.1.pr
def sns (S : List (Sn × Value)) : List Sn := S.map (·.1)
theorem sns_len (S : List (Sn × Value)) : (sns S).length = S.length := by simp [sns]
/-- Spans that may be read. -/
structure SnRd (W : World) (v : Value) (S : List (Sn × Value)) : Prop where
  row : Rd W v 3 S.length (rows snC S)
  inn : ∀ s ∈ S, Rd W s.2 3 s.1.pr.length (rows prC s.1.pr)
theorem SnAt.rd {W : World} {v : Value} {S : List (Sn × Value)} (h : SnAt W v S) : SnRd W v S := ⟨h.row.rd, fun s hs => Sl.rd (h.inn s hs)⟩
theorem SnAt.below {w w' : World} {v : Value} {S : List (Sn × Value)} (h : SnAt w v S) (hb : Below w.heap.size w w') : SnAt w' v S := ⟨h.row.only (Only.of_below (F := fun _ => False) hb) fun _ _ f => f, fun p hp => (h.inn p hp).below hb⟩
theorem SnRd.below {w w' : World} {v : Value} {S : List (Sn × Value)} (h : SnRd w v S) (hb : Below w.heap.size w w') : SnRd w' v S := ⟨h.row.belowN hb, fun p hp => (h.inn p hp).belowN hb⟩
theorem SnRd.at_ {w : World} {A : Option Addr} {n c i : Nat} {s : Sn} {pv : Value} {S : List (Sn × Value)} (h : SnRd w (.slice A n c) S) (hn : n = S.length) (hi : S[i]? = some (s, pv)) :
    ∃ g off, A = some ⟨g, off, none⟩ ∧ w.cell? ⟨g, off + i * 3, none⟩ = some (.int .i64 s.lo) ∧ w.cell? ⟨g, off + i * 3 + 1, none⟩ = some (.int .i64 s.hi) ∧ w.cell? ⟨g, off + i * 3 + 2, none⟩ = some pv := by
  have hlt := (List.getElem?_eq_some_iff.1 hi).1
  obtain ⟨g, off, c', hv1, hc1⟩ := Rd.fld snC_len h.row (by omega)
  obtain ⟨rfl, rfl⟩ : A = some ⟨g, off, none⟩ ∧ c = c' := by
    injection hv1 with e1 _ e2
    exact ⟨e1, e2⟩
  exact ⟨g, off, rfl, hc1 i _ 0 _ hi rfl, hc1 i _ 1 _ hi rfl, hc1 i _ 2 _ hi rfl⟩
/-- Spans out of pieces. -/
def spP (P : List Pc) (a b by_ : Int) : List Sn := if 1 ≤ a ∧ a ≤ b ∧ b ≤ 65537 then (cutP a.toNat b.toNat P).map fun p => ⟨(p.fr : Int) + by_, (p.to : Int) + by_, p.pr⟩ else []
/-- What the loop writes. -/
structure OutS (W w : World) (v : Value) (S : List (Sn × Value)) : Prop where
  bel : Below W.heap.size W w
  inn : SnAt w v S
  own : ∀ g, v.ownBlock = some g → W.heap.size ≤ g
/-- Spans are handed back. -/
def SpRes (w : World) (l : List Sn) (e : Ending) (w' : World) : Prop := ∃ v S, e = .returned v ∧ OutS w w' v S ∧ sns S = l
section
variable {W w w' : World} {v v' : Value} {S : List (Sn × Value)}
theorem OutS.more {w2 w3 : World} {s : Sn} {pv : Value} (h : OutS W w v S) (hb : Below w.heap.size w w2) (hp : PrS w2 pv s.pr) (hs : Sl w3 38 3 v' (S.length + 1) (rows snC S ++ snC (s, pv))) (ho : Only (fun b => v.ownBlock = some b) (w2.alloc (.cells (snC (s, pv)).toArray 38)) w3) (hv : v'.ownBlock = v.ownBlock ∨ v'.ownBlock = some (w2.alloc (.cells (snC (s, pv)).toArray 38)).heap.size) : OutS W w3 v' (S ++ [(s, pv)]) := by
  have hb2 := h.bel.trans (hb.mono h.bel.size)
  have ho2 : Only (fun b => v.ownBlock = some b) w2 w3 := ((Only.refl _ w2).alloc _).trans ho
  have hrow := h.inn.row.only (Only.of_below (F := fun _ => False) hb) fun _ _ f => f
  refine ⟨hb2.trans (ho2.below hb2.size fun g e => h.own g e), ⟨?_, fun p hpp => ?_⟩, fun g hg => ?_⟩
  · rw [List.length_append, rows_append, rows_one]
    exact hs
  · have h2 : PrS w2 p.2 p.1.pr := by
      rcases List.mem_append.1 hpp with hpp | hpp
      · exact (h.inn.inn p hpp).below hb
      · have : p = (s, pv) := by simpa using hpp
        exact this ▸ hp
    exact Sl.only h2 ho2 (Sl.apart h2 hrow (by decide))
  · rcases hv with e | e
    · exact h.own g (e ▸ hg)
    · rw [e] at hg
      cases hg
      have := hb2.size
      simp
      omega
end
section
variable {w : World} {b : Nat} {sv : Value} {L : List (Pc × Value)} {N : Nat}
set_option maxRecDepth 100000 in
set_option maxHeartbeats 16000000 in
theorem spans_any (h : PropsAt w b sv L) (hg : Good (pcs L) N) (hN : N ≤ 1000) (a0 b0 by_ : Int) (hby : -70000 ≤ by_ ∧ by_ ≤ 70000) :
    Calls Try.prog 55 #[.pointer (some ⟨b, 0, none⟩), .int .i64 a0, .int .i64 b0, .int .i64 by_] w (SpRes w (spP (pcs L) a0 b0 by_)) := by
  obtain ⟨i0, hi0, hz0, hz1, hz2⟩ := info_parts info_sn
  have HMA := hide (may_any a0 b0 w)
  obtain ⟨A, c, rfl, _⟩ := h.inn.row.form
  have HNO := hide (none_at h)
  have c0 : w.cell? ⟨b, 0, none⟩ = some (.slice A L.length c) := h.box.cell 0
  have hLs := hg.size
  rw [pcs_len] at hLs
  have HP := hide h
  have HFI := hide hg.fits
  have HGO := hide hg
  obtain ⟨nn, hnn⟩ : ∃ nn, nn = L.length := ⟨_, rfl⟩
  have hl2 : (nn : Int) ≤ 65537 := by omega
  rw [← hnn] at c0 HP
  have HNN := hide hnn
  have HN := hide hN
  have HL0 := hide (show OutS w w (.slice none 0 0) [] from ⟨Below.refl _ _, ⟨Sl.nil _ _ _, fun p hp => by cases hp⟩, fun g hg => by cases hg⟩)
  by_cases hm : 1 ≤ a0 ∧ a0 ≤ b0 ∧ b0 ≤ 65537
  · have hS : spP (pcs L) a0 b0 by_ = ((pcs L).foldl (cutStep a0.toNat b0.toNat) []).map fun p => ⟨(p.fr : Int) + by_, (p.to : Int) + by_, p.pr⟩ := if_pos hm
    rw [hS, decide_eq_true hm] at *
    obtain ⟨fr, rfl⟩ : ∃ a : Nat, a0 = (a : Int) := ⟨a0.toNat, by omega⟩
    obtain ⟨en, rfl⟩ : ∃ a : Nat, b0 = (a : Int) := ⟨b0.toNat, by omega⟩
    simp only [Int.toNat_natCast]
    have hfr1 : fr ≤ 65537 := by omega
    have hen1 : en ≤ 65537 := by omega
    obtain ⟨hby1, hby2⟩ := hby
    clear h hg hLs hS hnn hm hN
    go_enter Try.func55, Try.ntmps55
    go_wp2_with (first | (go_at_call 52; (with_reducible refine Calls.mono HNO.out ?_); rintro r w2 ⟨rfl, rfl⟩) | (go_at_call 53; (with_reducible refine Calls.mono HMA.out ?_); rintro r w2 ⟨rfl, rfl⟩))
    go_loopw [9, 27] (fun ov iv wr => ∃ (k : Nat) (S : List (Sn × Value)), k ≤ nn ∧ iv = .int .i64 (k : Int) ∧ OutS w wr ov S ∧ sns S = (((pcs L).take k).foldl (cutStep fr en) []).map (fun p => ⟨(p.fr : Int) + by_, (p.to : Int) + by_, p.pr⟩) ∧ S.length ≤ k) (fun _ iv _ => nn - (intOf iv).toNat)
    case atStart => exact ⟨0, [], Nat.zero_le _, rfl, HL0.out, rfl, Nat.zero_le _⟩
    case round =>
      obtain ⟨k, S, hk, rfl, hst, hfo, hlen⟩ := hrel
      obtain ⟨A1, d1, rfl, _⟩ := hst.inn.row.form
      have HFO := hide hfo
      have HLEN := hide hlen
      by_cases hlt : k < nn
      · have y1 : decide (k < nn) = true := by simpa using hlt
        have y2 : decide ((k : Int) < (nn : Int)) = true := by simp; omega
        have y3 : (k : Int) < (nn : Int) := by omega
        obtain ⟨⟨⟨pf, pt, q⟩, pv⟩, hp⟩ : ∃ p, L[k]? = some p := ⟨_, List.getElem?_eq_getElem (by rw [← HNN.out]; exact hlt)⟩
        have hmem : (⟨pf, pt, q⟩ : Pc) ∈ pcs L := List.mem_map_of_mem (f := Prod.fst) (List.mem_of_getElem? hp)
        have hpp : (pcs L)[k]? = some ⟨pf, pt, q⟩ := by unfold pcs; rw [List.getElem?_map, hp]; rfl
        have hrd := HP.out.inn.rd.below hst.bel
        obtain ⟨g, off, Ap, cp, e1, rfl, p0, p1, p2⟩ := hrd.at_ HNN.out hp
        subst e1
        have hpv := hrd.inn _ (List.mem_of_getElem? hp)
        have hrng := HGO.out.mem hmem
        have hbx := below_box wr (.cells #[.int .i64 (pf : Int), .int .i64 (pt : Int), .slice Ap q.length cp] 73)
        have HBX := hide hbx
        have HBK := hide (Blk.new wr 73 #[.int .i64 (pf : Int), .int .i64 (pt : Int), .slice Ap q.length cp])
        have HST := hide hst
        have HQN := hide (show q.length ≤ N from HFI.out _ hmem)
        have HCL := hide (fun (w2 : World) (hb : Below wr.heap.size wr w2) => clone_props (.slice Ap q.length cp) q.length (rows prC q) w2 (Sl.rd (hpv.below hb)) (rows_prone q) (by have := HQN.out; have := HN.out; omega))
        have HPP := hide hpp
        have HLT := hide hlt
        have b0 := HBK.out.cell 0
        have b1 := HBK.out.cell 1
        have b2 := HBK.out.cell 2
        have hpt : pt ≤ 65537 := hrng.2.2.1
        have hpf : pf < pt := hrng.2.1
        obtain ⟨m1, hm1⟩ : ∃ m, m = min pt en := ⟨_, rfl⟩
        obtain ⟨a1, ha1⟩ : ∃ m, m = max pf fr := ⟨_, rfl⟩
        have q1 : ∀ (w : World), (Builtin.min_ #[3, 3] 3 #[.int .i64 (pt : Int), .int .i64 (en : Int)]).run Try.prog w = .ok (.int .i64 (m1 : Int)) w := fun w => by rw [run_min_int2, hm1]; congr 3; split <;> omega
        have q2 : ∀ (w : World), (Builtin.max_ #[3, 3] 3 #[.int .i64 (pf : Int), .int .i64 (fr : Int)]).run Try.prog w = .ok (.int .i64 (a1 : Int)) w := fun w => by rw [run_max_int2, ha1]; congr 3; split <;> omega
        have q3 : IntKind.i64.wrap ((a1 : Int) + by_) = (a1 : Int) + by_ := IntWalk.i64_in _ (by omega)
        have q4 : IntKind.i64.wrap ((m1 : Int) + by_) = (m1 : Int) + by_ := IntWalk.i64_in _ (by omega)
        have HM1 := hide hm1
        have HA1 := hide ha1
        clear hst hfo hrd hpv hp hpp hlt hlen hk hmem hrng hm1 ha1 hbx
        by_cases hab : a1 < m1
        · have t1 : decide (a1 < m1) = true := by simpa using hab
          have t2 : decide ((a1 : Int) < (m1 : Int)) = true := by simp; omega
          have t3 : (a1 : Int) < (m1 : Int) := by omega
          have HAB := hide hab
          clear hab
          go_upto_region 7 with fail
          go_region
          have HSN := hide (fun (w2 : World) (pv : Value) (hb : Below wr.heap.size wr w2) => (show Sl (w2.alloc (.cells (snC (⟨(a1 : Int) + by_, (m1 : Int) + by_, q⟩, pv)).toArray 38)) 38 3 (.slice A1 S.length d1) S.length (rows snC S) from (HST.out.inn.row.only (Only.of_below (F := fun _ => False) hb) fun _ _ f => f).alloc _))
          have hsl := HLEN.out
          have hsb : S.length ≤ 65537 := by omega
          clear hsl
          go_wp2_with (first | (go_at_call 50; (with_reducible refine Calls.mono (HCL.out _ (HBX.out.drew)) ?_); rintro r w2 ⟨v2, rfl, s2, o2, b2⟩; have HB2 := hide (HBX.out.drew.trans (b2.mono HBX.out.drew.size)); have H2 := hide (show PrS w2 v2 q from s2); obtain ⟨A2, c2, rfl, _, _⟩ := s2.form; clear s2 o2 b2) | (at_builtin; refine wpList_append_sl rfl (.tmp 44) (.tmp 56) 34 rfl 38 i0 (.agg #[.int .i64 0, .int .i64 0, .slice none 0 0]) 3 40 Try.underlying34 hi0 hz0 hz1 hz2 rfl _ S.length (rows snC S) rfl (HSN.out w2 (.slice A2 q.length c2) HB2.out) _ rfl 1 _ (rd_sn w2 (⟨(a1 : Int) + by_, (m1 : Int) + by_, q⟩, .slice A2 q.length c2)) (snC_one rfl) ?b1 ?b2 ?_))
          case b1 => unfold maxLen; omega
          case b2 => omega
          intro v3 w3 hs3 ho3 hv3
          obtain ⟨A3, c3, rfl, _⟩ := hs3.form
          have HM := hide (HST.out.more (s := ⟨(a1 : Int) + by_, (m1 : Int) + by_, q⟩) HB2.out H2.out hs3 ho3 (by simpa using hv3))
          clear hs3 ho3 hv3
          go_wp2
          go_roundw
          case rel =>
            refine ⟨k + 1, S ++ [(⟨(a1 : Int) + by_, (m1 : Int) + by_, q⟩, .slice A2 q.length c2)], HLT.out, by go_num, HM.out, ?_, by rw [List.length_append]; have := HLEN.out; simp; omega⟩
            rw [foldl_snoc _ _ _ _ _ HPP.out]
            unfold cutStep
            rw [if_pos (by have := HAB.out; rw [HA1.out, HM1.out] at this; exact this), List.map_append]
            have e := HFO.out
            unfold sns at e ⊢
            rw [List.map_append, e, HA1.out, HM1.out]
            rfl
          case measure => have := HLT.out; simp [intOf]; omega
        · have t1 : decide (a1 < m1) = false := by simpa using hab
          have t2 : decide ((a1 : Int) < (m1 : Int)) = false := by simp; omega
          have t3 : ¬ (a1 : Int) < (m1 : Int) := by omega
          have HAB := hide hab
          clear hab
          go_upto_region 7 with fail
          go_region
          go_wp2
          go_roundw
          case rel =>
            refine ⟨k + 1, S, HLT.out, by go_num, ⟨HST.out.bel.trans ((HBX.out.drew).mono HST.out.bel.size), HST.out.inn.below HBX.out.drew, HST.out.own⟩, ?_, by have := HLEN.out; omega⟩
            rw [foldl_snoc _ _ _ _ _ HPP.out, HFO.out]
            unfold cutStep
            rw [if_neg (by have := HAB.out; rw [HA1.out, HM1.out] at this; exact this)]
          case measure => have := HLT.out; simp [intOf]; omega
      · obtain rfl : k = nn := by omega
        have y1 : decide (k < k) = false := by simp
        have y2 : decide ((k : Int) < (k : Int)) = false := by simp
        have HST := hide hst
        clear hst hfo hlen hlt hk
        go_wp2
        go_ret
        have e := HFO.out
        rw [List.take_of_length_le (by rw [pcs_len, ← HNN.out]; exact Nat.le_refl _)] at e
        exact ⟨_, S, rfl, HST.out, e⟩
  · have hS : spP (pcs L) a0 b0 by_ = [] := if_neg hm
    rw [hS]
    rw [decide_eq_false hm] at HMA
    clear h hg hLs hS hnn hm hN
    go_enter Try.func55, Try.ntmps55
    go_wp2_with (first | (go_at_call 52; (with_reducible refine Calls.mono HNO.out ?_); rintro r w2 ⟨rfl, rfl⟩) | (go_at_call 53; (with_reducible refine Calls.mono HMA.out ?_); rintro r w2 ⟨rfl, rfl⟩))
    go_ret
    exact ⟨_, [], rfl, HL0.out, rfl⟩
theorem Spans_any (h : PropsAt w b sv L) (hg : Good (pcs L) N) (hN : N ≤ 1000) (a0 b0 : Int) :
    Calls Try.prog 18 #[.pointer (some ⟨b, 0, none⟩), .int .i64 a0, .int .i64 b0] w (SpRes w (spP (pcs L) a0 b0 0)) := by
  have HS := hide (spans_any h hg hN a0 b0 0 (by omega))
  clear h hg hN
  go_enter Try.func18, Try.ntmps18
  go_wp2_with (go_at_call 55; (with_reducible refine Calls.mono HS.out ?_); rintro r w2 ⟨v, S, rfl, h2, e2⟩; have H2 := hide h2; have E2 := hide e2; obtain ⟨A, c, rfl, _⟩ := h2.inn.row.form; clear h2 e2)
  go_ret
  exact ⟨_, S, rfl, H2.out, E2.out⟩
/-- What Cut gives. -/
def cutS (P : List Pc) (a b : Int) : List Sn := spP P a b (1 - a)
theorem Cut_any (h : PropsAt w b sv L) (hg : Good (pcs L) N) (hN : N ≤ 1000) (a0 b0 : Int) :
    Calls Try.prog 20 #[.pointer (some ⟨b, 0, none⟩), .int .i64 a0, .int .i64 b0] w (SpRes w (cutS (pcs L) a0 b0)) := by
  have HMA := hide (may_any a0 b0 w)
  by_cases hm : 1 ≤ a0 ∧ a0 ≤ b0 ∧ b0 ≤ 65537
  · have HS := hide (spans_any h hg hN a0 b0 (1 - a0) (by omega))
    have wq : IntKind.i64.wrap (1 - a0) = 1 - a0 := IntWalk.i64_in _ (by omega)
    rw [decide_eq_true hm] at HMA
    unfold cutS
    clear h hg hN hm
    go_enter Try.func20, Try.ntmps20
    go_wp2_with (first | (go_at_call 53; (with_reducible refine Calls.mono HMA.out ?_); rintro r w2 ⟨rfl, rfl⟩) | (go_at_call 55; (with_reducible refine Calls.mono HS.out ?_); rintro r w2 ⟨v, S, rfl, h2, e2⟩; have H2 := hide h2; have E2 := hide e2; obtain ⟨A, c, rfl, _⟩ := h2.inn.row.form; clear h2 e2))
    go_ret
    exact ⟨_, S, rfl, H2.out, E2.out⟩
  · have hS : cutS (pcs L) a0 b0 = [] := if_neg hm
    rw [hS]
    rw [decide_eq_false hm] at HMA
    have HL0 := hide (show OutS w w (.slice none 0 0) [] from ⟨Below.refl _ _, ⟨Sl.nil _ _ _, fun p hp => by cases hp⟩, fun g hg => by cases hg⟩)
    clear h hg hN hm hS
    go_enter Try.func20, Try.ntmps20
    go_wp2_with (go_at_call 53; (with_reducible refine Calls.mono HMA.out ?_); rintro r w2 ⟨rfl, rfl⟩)
    go_ret
    exact ⟨_, [], rfl, HL0.out, rfl⟩
end
end Go.Proofs.Ytgiogmbopiblmaa
