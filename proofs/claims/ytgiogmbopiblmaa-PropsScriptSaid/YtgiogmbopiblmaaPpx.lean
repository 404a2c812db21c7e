/- Get, List; Inserted, Deleted. No condition but those written. -/
import Derived.Test.YtgiogmbopiblmaaPpw
namespace Go.Proofs.Ytgiogmbopiblmaa
open Go.RowKit

/-- What a loop writes: pieces of the call's own. -/
structure OutAt (W w : World) (v : Value) (L : List (Pc × Value)) (M : Nat) : Prop where
  bel : Below W.heap.size W w
  inn : PcsAt w v L
  own : ∀ g, v.ownBlock = some g → W.heap.size ≤ g
  fit : ∀ p ∈ pcs L, p.pr.length ≤ M
/-- The same, within a round: the piece's box. -/
structure OutB (W w : World) (v : Value) (L : List (Pc × Value)) (M g0 : Nat) (x : Pc) (pv : Value) : Prop where
  st : OutAt W w v L M
  bx : Blk w g0 73 #[.int .i64 (x.fr : Int), .int .i64 (x.to : Int), pv]
  far : ¬ v.ownBlock = some g0
  hi : W.heap.size ≤ g0
  pr : PrS w pv x.pr
section
variable {W w w' : World} {v v' pv : Value} {L L' : List (Pc × Value)} {M g0 : Nat} {x : Pc}
theorem OutAt.below (h : OutAt W w v L M) (hb : Below w.heap.size w w') : OutAt W w' v L M := ⟨h.bel.trans (hb.mono h.bel.size), h.inn.below hb, h.own, h.fit⟩
theorem OutB.of (h : OutAt W w v L M) (hp : PrS w pv x.pr) : OutB W (w.alloc (.cells #[.int .i64 (x.fr : Int), .int .i64 (x.to : Int), pv] 73)) v L M w.heap.size x pv := by
  have hb := below_box w (.cells #[.int .i64 (x.fr : Int), .int .i64 (x.to : Int), pv] 73)
  refine ⟨h.below hb, Blk.new w _ _, fun e => ?_, h.bel.size, hp.below hb⟩
  rcases h.inn.row.2 with ⟨e1, _⟩ | ⟨g1, o1, c1, cs1, e1, hh, _⟩
  · rw [e1] at e
    cases e
  · rw [e1] at e
    cases e
    exact absurd (lt_of_heap hh) (Nat.lt_irrefl _)
theorem OutB.cells (h : OutB W w v L M g0 x pv) : w.cell? ⟨g0, 0, none⟩ = some (.int .i64 (x.fr : Int)) ∧ w.cell? ⟨g0, 1, none⟩ = some (.int .i64 (x.to : Int)) ∧ w.cell? ⟨g0, 2, none⟩ = some pv :=
  ⟨(h.bx.cell 0).trans rfl, (h.bx.cell 1).trans rfl, (h.bx.cell 2).trans rfl⟩
theorem OutB.put {y z : Nat} {q : List Pr} (h : OutB W w v L M g0 x pv) (hp : PcsAt w' v' L') (he : pcs L' = addP (pcs L) y z q) (ho : Only (fun g => v.ownBlock = some g) w w') (hv : v'.ownBlock = v.ownBlock ∨ ∃ g, v'.ownBlock = some g ∧ w.heap.size ≤ g) (hq : q.length ≤ M) : OutB W w' v' L' M g0 x pv := by
  have hlt := h.bx.lt
  have hs := h.st.bel.size
  have hi := h.hi
  refine ⟨⟨h.st.bel.trans (ho.below hs fun g e => h.st.own g e), hp, fun g hg => ?_, by rw [he]; exact addP_fit h.st.fit hq⟩, h.bx.only ho h.far, fun e => ?_, hi, h.pr.apart h.st.inn.row ho⟩
  · rcases hv with e | ⟨g', e, h2⟩
    · exact h.st.own g (e ▸ hg)
    · rw [e] at hg
      cases hg
      omega
  · rcases hv with e1 | ⟨g, e1, h2⟩
    · exact h.far (e1 ▸ e)
    · rw [e1] at e
      cases e
      omega
theorem foldl_snoc {α β : Type} (f : β → α → β) (l : List α) (k : Nat) (x : α) (b : β) (h : l[k]? = some x) : (l.take (k + 1)).foldl f b = f ((l.take k).foldl f b) x := by
  rw [List.take_add_one, h, List.foldl_append]
  rfl
end
section
variable {w : World} {b : Nat} {sv : Value} {L : List (Pc × Value)} {N : Nat}
set_option maxRecDepth 100000 in
set_option maxHeartbeats 4000000 in
theorem Get_any (h : PropsAt w b sv L) (hg : Good (pcs L) N) (hN : N ≤ 1000) (x n : Int) : Calls Try.prog 21 #[.pointer (some ⟨b, 0, none⟩), .int .i64 x, .int .i64 n] w fun e w' => e = .returned (.tuple #[.agg #[.int .i64 (getV (denI (pcs L) x) n).1, .int .i64 (getV (denI (pcs L) x) n).2], .bool (getP (denI (pcs L) x) n).isSome]) ∧ Below w.heap.size w w' := by
  have hb := below_box w (.cells #[.int .i64 0, .int .i64 0] 29)
  have hL := hg.size
  rw [pcs_len] at hL
  have HLI := hide (list_at (h.below hb) x (by omega))
  have hlen : (denI (pcs L) x).length ≤ 1000 := by
    unfold denI
    split
    · simp
    · exact Nat.le_trans (hg.len _) hN
  obtain ⟨q, hq⟩ : ∃ q, q = denI (pcs L) x := ⟨_, rfl⟩
  rw [← hq] at HLI hlen ⊢
  have HB := hide hb
  have HF0 := hide (Blk.new w 29 #[.int .i64 0, .int .i64 0])
  have HL := hide hlen
  clear h hg hb hq hlen hL
  go_enter Try.func21, Try.ntmps21
  go_wp2_with (first | (go_at_call 51; (with_reducible refine Calls.mono HLI.out ?_); rintro r w2 ⟨v2, rfl, h2, b2⟩; have HG := hide (get_any q v2 n w2 (Sl.rd h2) (by have := HL.out; omega)); have HB2 := hide b2; obtain ⟨A2, c2, rfl, _⟩ := Sl.form h2; clear h2 b2) | (go_at_call 57; (with_reducible refine Calls.mono HG.out ?_); rintro r w3 ⟨rfl, b3⟩; have hF3 := (HF0.out.below HB2.out HF0.out.lt).below b3 (HF0.out.below HB2.out HF0.out.lt).lt; have c0 := hF3.cell 0; have c1 := hF3.cell 1; have f0 := hF3.frozen 0; have f1 := hF3.frozen 1; have HF3 := hide hF3; have HB3 := hide (HB.out.trans ((HB2.out.trans (b3.mono HB2.out.size)).mono HB.out.size)); clear hF3 b3))
  refine bodyPost_ret (results_cell_tmp2 rfl _ _ w.heap.size 29 _ (0, 0) _ rfl ((HF3.out.set_ 0 _).set_ 1 _) Try.underlying29 rfl (by kernel_rfl)) rfl ?_
  exact ⟨rfl, (HB3.out.setCell (p := ⟨w.heap.size, 0, none⟩) (Nat.le_refl _) _).setCell (p := ⟨w.heap.size, 1, none⟩) (Nat.le_refl _) _⟩
set_option maxRecDepth 100000 in
set_option maxHeartbeats 4000000 in
theorem List_any (h : PropsAt w b sv L) (hg : Good (pcs L) N) (hN : N ≤ 1000) (x : Int) : Calls Try.prog 16 #[.pointer (some ⟨b, 0, none⟩), .int .i64 x] w fun e w' => ∃ v, e = .returned v ∧ PrS w' v (denI (pcs L) x) ∧ (∀ g, v.ownBlock = some g → w.heap.size ≤ g) ∧ Below w.heap.size w w' := by
  have hL := hg.size
  rw [pcs_len] at hL
  have HLI := hide (list_at h x (by omega))
  have hlen : (denI (pcs L) x).length ≤ 1000 := by
    unfold denI
    split
    · simp
    · exact Nat.le_trans (hg.len _) hN
  obtain ⟨q, hq⟩ : ∃ q, q = denI (pcs L) x := ⟨_, rfl⟩
  rw [← hq] at HLI hlen ⊢
  have HL := hide hlen
  clear h hg hq hlen hL
  go_enter Try.func16, Try.ntmps16
  go_wp2_with (first | (go_at_call 51; (with_reducible refine Calls.mono HLI.out ?_); rintro r w2 ⟨v2, rfl, h2, b2⟩; have HG := hide (clone_props v2 q.length (rows prC q) w2 (Sl.rd h2) (rows_prone q) (by have := HL.out; omega)); have HB2 := hide b2; obtain ⟨A2, c2, rfl, _⟩ := Sl.form h2; clear h2 b2) | (go_at_call 50; (with_reducible refine Calls.mono HG.out ?_); rintro r w3 ⟨v3, rfl, s3, o3, b3⟩; have S3 := hide s3; have O3 := hide (show ∀ g, v3.ownBlock = some g → w.heap.size ≤ g from fun g hg => Nat.le_trans HB2.out.size (o3 g hg)); have HB3 := hide (HB2.out.trans (b3.mono HB2.out.size)); obtain ⟨A3, c3, rfl, _⟩ := s3.form; clear s3 o3 b3))
  go_ret
  exact ⟨_, rfl, S3.out, O3.out, HB3.out⟩
/-- The error of an insertion. -/
def insE (P : List Pc) (a n : Int) : Int := if a < 1 ∨ 65537 < a then 3 else if n < 0 ∨ 65536 < n then 2 else if a < (endP P : Int) ∧ 65537 < (endP P : Int) + n then 3 else 0
def insQ (P : List Pc) (a n : Int) : List Pc := if insE P a n = 0 then insP a.toNat n.toNat P else P
theorem last_cells {A : Option Addr} {nn c : Nat} (h : PcsAt w (.slice A nn c) L) (hn : nn = L.length) (hp : 0 < nn) : ∃ (m g off : Nat), nn = m + 1 ∧ A = some ⟨g, off, none⟩ ∧ w.cell? ⟨g, off + m * 3 + 1, none⟩ = some (.int .i64 (endP (pcs L) : Int)) := by
  rcases List.eq_nil_or_concat L with rfl | ⟨K, p, hLp⟩
  · simp at hn
    omega
  · rw [List.concat_eq_append] at hLp
    obtain ⟨⟨f, t, q0⟩, pv⟩ := p
    have hL : nn = K.length + 1 := by rw [hn, hLp, List.length_append]; rfl
    have hLm : L[K.length]? = some (⟨f, t, q0⟩, pv) := by rw [hLp, List.getElem?_append_right (Nat.le_refl _)]; simp
    obtain ⟨g, off, _, _, e1, _, _, p1, _⟩ := h.rd.at_ hn hLm
    have e : endP (pcs L) = t := by
      rw [hLp]
      simp only [pcs, List.map_append, List.map_cons, List.map_nil]
      exact endP_snoc _ _
    exact ⟨K.length, g, off, hL, e1, by rw [e]; exact p1⟩
set_option maxRecDepth 100000 in
set_option maxHeartbeats 16000000 in
theorem inserted_any (h : PropsAt w b sv L) (hg : Good (pcs L) N) (hN : N ≤ 1000) (a0 n0 : Int) :
    Calls Try.prog 19 #[.pointer (some ⟨b, 0, none⟩), .int .i64 a0, .int .i64 n0] w fun e w' => e = .returned (.int .i64 (insE (pcs L) a0 n0)) ∧ MRes w b sv (insQ (pcs L) a0 n0) w' := by
  have HSAME := hide (fun w' (hb : Below w.heap.size w w') => MRes.same h hb)
  obtain ⟨A, c, rfl, _⟩ := h.inn.row.form
  have HNO := hide (none_at h)
  have c0 : w.cell? ⟨b, 0, none⟩ = some (.slice A L.length c) := h.box.cell 0
  have hLs := hg.size
  rw [pcs_len] at hLs
  have HP := hide h
  have HFI := hide hg.fits
  have HNB := hide (show N ≤ 1000000 by omega)
  have HGO := hide hg
  obtain ⟨nn, hnn⟩ : ∃ nn, nn = L.length := ⟨_, rfl⟩
  have hl2 : (nn : Int) ≤ 65537 := by omega
  rw [← hnn] at c0 HP HSAME ⊢
  have HNN := hide hnn
  have HL0 := hide (show OutAt w w (.slice none 0 0) [] N from ⟨Below.refl _ _, PcsAt.nil _, fun g hg => (by cases hg), fun p hp => by cases hp⟩)
  by_cases ha : a0 < 1 ∨ 65537 < a0
  · have hE : insE (pcs L) a0 n0 = 3 := if_pos ha
    have hQ : insQ (pcs L) a0 n0 = pcs L := by unfold insQ; rw [hE]; rfl
    rw [hE, hQ]
    clear h hg hLs hE hQ hnn
    rcases ha with ha | ha
    · have z1 : decide (a0 < 1) = true := by simpa using ha
      clear ha
      go_enter Try.func19, Try.ntmps19
      go_wp2_with (go_at_call 52; (with_reducible refine Calls.mono HNO.out ?_); rintro r w2 ⟨rfl, rfl⟩)
      go_ret
      exact ⟨rfl, HSAME.out _ (Below.refl _ _)⟩
    · have z1 : decide (a0 < 1) = false := by simp; omega
      have z2 : decide (65537 < a0) = true := by simpa using ha
      have z3 : ¬ a0 < 1 := by omega
      clear ha
      go_enter Try.func19, Try.ntmps19
      go_wp2_with (go_at_call 52; (with_reducible refine Calls.mono HNO.out ?_); rintro r w2 ⟨rfl, rfl⟩)
      go_ret
      exact ⟨rfl, HSAME.out _ (Below.refl _ _)⟩
  by_cases hn : n0 < 0 ∨ 65536 < n0
  · have hE : insE (pcs L) a0 n0 = 2 := by unfold insE; rw [if_neg ha, if_pos hn]
    have hQ : insQ (pcs L) a0 n0 = pcs L := by unfold insQ; rw [hE]; rfl
    rw [hE, hQ]
    have z1 : decide (a0 < 1) = false := by simp; omega
    have z2 : decide (65537 < a0) = false := by simp; omega
    have z3 : ¬ a0 < 1 := by omega
    have z4 : ¬ 65537 < a0 := by omega
    clear h hg hLs hE hQ hnn ha
    rcases hn with hn | hn
    · have z5 : decide (n0 < 0) = true := by simpa using hn
      clear hn
      go_enter Try.func19, Try.ntmps19
      go_wp2_with (go_at_call 52; (with_reducible refine Calls.mono HNO.out ?_); rintro r w2 ⟨rfl, rfl⟩)
      go_ret
      exact ⟨rfl, HSAME.out _ (Below.refl _ _)⟩
    · have z5 : decide (n0 < 0) = false := by simp; omega
      have z6 : decide (65536 < n0) = true := by simpa using hn
      have z7 : ¬ n0 < 0 := by omega
      clear hn
      go_enter Try.func19, Try.ntmps19
      go_wp2_with (go_at_call 52; (with_reducible refine Calls.mono HNO.out ?_); rintro r w2 ⟨rfl, rfl⟩)
      go_ret
      exact ⟨rfl, HSAME.out _ (Below.refl _ _)⟩
  obtain ⟨at_, rfl⟩ : ∃ a : Nat, a0 = (a : Int) := ⟨a0.toNat, by omega⟩
  obtain ⟨n, rfl⟩ : ∃ a : Nat, n0 = (a : Int) := ⟨n0.toNat, by omega⟩
  have z1 : decide ((at_ : Int) < 1) = false := by simp; omega
  have z2 : decide (65537 < (at_ : Int)) = false := by simp; omega
  have z2' : decide (65537 < at_) = false := by simp <;> omega
  have z3 : ¬ (at_ : Int) < 1 := by omega
  have z4 : ¬ 65537 < (at_ : Int) := by omega
  have z5 : decide ((n : Int) < 0) = false := by simp <;> omega
  have z6 : decide (65536 < (n : Int)) = false := by simp; omega
  have z6' : decide (65536 < n) = false := by simp <;> omega
  have z7 : ¬ (n : Int) < 0 := by omega
  have z8 : ¬ 65536 < (n : Int) := by omega
  have hat : at_ ≤ 65537 := by omega
  have hat1 : 1 ≤ at_ := by omega
  have hnb : n ≤ 65536 := by omega
  have HNF := hide (show Nf 0 [] ((pcs L).foldl (insStep at_ n) []) from (ins_inv at_ n (pcs L) hg.nf).1)
  have hEQ : ¬ (at_ < endP (pcs L) ∧ 65537 < endP (pcs L) + n) → insE (pcs L) at_ n = 0 ∧ insQ (pcs L) at_ n = (pcs L).foldl (insStep at_ n) [] := fun hh => by
    have e : insE (pcs L) at_ n = 0 := by unfold insE; rw [if_neg ha, if_neg hn, if_neg (by omega)]
    refine ⟨e, ?_⟩
    unfold insQ
    rw [e, if_pos rfl, Int.toNat_natCast, Int.toNat_natCast]
    rfl
  have hEB : (at_ < endP (pcs L) ∧ 65537 < endP (pcs L) + n) → insE (pcs L) at_ n = 3 ∧ insQ (pcs L) at_ n = pcs L := fun hh => by
    have e : insE (pcs L) at_ n = 3 := by unfold insE; rw [if_neg ha, if_neg hn, if_pos (by omega)]
    refine ⟨e, ?_⟩
    unfold insQ
    rw [e]
    rfl
  by_cases h0 : nn = 0
  · obtain ⟨e1, e2⟩ := hEQ (by rw [List.eq_nil_of_length_eq_zero (l := L) (by omega)]; simp [pcs, endP_nil])
    rw [e1, e2]
    have wq : IntKind.i64.wrap ((nn : Int) - 1) = -1 := by rw [h0]; rfl
    have y0 : decide ((0 : Int) ≤ -1) = false := by simp
    clear h hg hLs hEQ hEB ha hn hnn e1 e2 hN h0
    go_enter Try.func19, Try.ntmps19
    go_wp2_with (go_at_call 52; (with_reducible refine Calls.mono HNO.out ?_); rintro r w2 ⟨rfl, rfl⟩)
    go_loopw [8, 68] (fun ov iv wr => ∃ (k : Nat) (L' : List (Pc × Value)), k ≤ nn ∧ iv = .int .i64 (k : Int) ∧ OutAt w wr ov L' N ∧ pcs L' = ((pcs L).take k).foldl (insStep at_ n) [] ∧ L'.length ≤ 2 * k) (fun _ iv _ => nn - (intOf iv).toNat)
    case atStart => exact ⟨0, [], Nat.zero_le _, rfl, HL0.out, rfl, Nat.zero_le _⟩
    case round =>
      obtain ⟨k, L', hk, rfl, hst, hfo, hlen⟩ := hrel
      obtain ⟨A1, d1, rfl, _⟩ := hst.inn.row.form
      have HFO := hide hfo
      have HLEN := hide hlen
      have HK2 := hide (show 2 * k ≤ 140000 by omega)
      by_cases hlt : k < nn
      · have y1 : decide (k < nn) = true := by simpa using hlt
        have y2 : decide ((k : Int) < (nn : Int)) = true := by simp; omega
        have y3 : (k : Int) < (nn : Int) := by omega
        obtain ⟨⟨⟨pf, pt, q⟩, pv⟩, hp⟩ : ∃ p, L[k]? = some p := ⟨_, List.getElem?_eq_getElem (by rw [← HNN.out]; exact hlt)⟩
        have hmem : (⟨pf, pt, q⟩ : Pc) ∈ pcs L := List.mem_map_of_mem (f := Prod.fst) (List.mem_of_getElem? hp)
        have hpp : (pcs L)[k]? = some ⟨pf, pt, q⟩ := by unfold pcs; rw [List.getElem?_map, hp]; rfl
        have hrd := HP.out.inn.rd.below hst.bel
        obtain ⟨g, off, Ap, cp, e1, rfl, p0, p1, p2⟩ := hrd.at_ HNN.out hp
        first | subst e1 | (injection e1 with e1; injection e1 with e3 e4; subst e3 e4)
        have hpv := hrd.inn _ (List.mem_of_getElem? hp)
        have hrng := HGO.out.mem hmem
        have H1 := hide (OutB.of hst hpv)
        have HQN := hide (show q.length ≤ N from HFI.out _ hmem)
        have HQL := hide (show q.length ≤ 1000000 from Nat.le_trans HQN.out HNB.out)
        have HPP := hide hpp
        have HLT := hide hlt
        obtain ⟨b0, b1, b2⟩ := H1.out.cells
        have hpt : pt ≤ 65537 := hrng.2.2.1
        have hpf : pf < pt := hrng.2.1
        obtain ⟨m1, hm1⟩ : ∃ m, m = min pt at_ := ⟨_, rfl⟩
        obtain ⟨a1, ha1⟩ : ∃ m, m = max pf at_ := ⟨_, rfl⟩
        have q1 : ∀ (w : World), (Builtin.min_ #[3, 3] 3 #[.int .i64 (pt : Int), .int .i64 (at_ : Int)]).run Try.prog w = .ok (.int .i64 (m1 : Int)) w := fun w => by rw [run_min_int2, hm1]; congr 3; split <;> omega
        have q2 : ∀ (w : World), (Builtin.max_ #[3, 3] 3 #[.int .i64 (pf : Int), .int .i64 (at_ : Int)]).run Try.prog w = .ok (.int .i64 (a1 : Int)) w := fun w => by rw [run_max_int2, ha1]; congr 3; split <;> omega
        have q3 : IntKind.i64.wrap ((a1 : Int) + (n : Int)) = ((a1 + n : Nat) : Int) := by rw [show ((a1 : Int) + (n : Int)) = ((a1 + n : Nat) : Int) by omega]; exact IntWalk.i64_in _ (by omega)
        have q4 : IntKind.i64.wrap ((pt : Int) + (n : Int)) = ((pt + n : Nat) : Int) := by rw [show ((pt : Int) + (n : Int)) = ((pt + n : Nat) : Int) by omega]; exact IntWalk.i64_in _ (by omega)
        obtain ⟨s1, hs1⟩ : ∃ s, s = a1 + n := ⟨_, rfl⟩
        obtain ⟨s2, hs2⟩ : ∃ s, s = pt + n := ⟨_, rfl⟩
        rw [← hs1] at q3
        rw [← hs2] at q4
        have HM1 := hide hm1
        have HA1 := hide ha1
        have HS1 := hide hs1
        have HS2 := hide hs2
        clear hm1 ha1 hs1 hs2
        clear hst hfo hrd hpv hp hpp hlt hlen hk hmem hrng
        by_cases ht : at_ < pt
        · have t1 : decide (at_ < pt) = true := by simpa using ht
          have t2 : decide ((at_ : Int) < (pt : Int)) = true := by simp; omega
          have t3 : (at_ : Int) < (pt : Int) := by omega
          have HT := hide ht
          clear ht
          go_upto_region 15 with (go_at_call 56; (with_reducible refine Calls.mono (add_any H1.out.st.inn H1.out.pr (pf : Int) (m1 : Int) (by have := HLEN.out; have := HK2.out; omega) HQL.out (fun p hp => Nat.le_trans (H1.out.st.fit _ (List.mem_map_of_mem hp)) HNB.out) (fun _ => by omega)) ?_); rintro r w2 ⟨v2, L2, rfl, p2, e2, o2, g2⟩; have H2 := hide (OutB.put H1.out p2 e2 o2 g2 HQN.out); have E2 := hide e2; have N2 := hide (len_step e2); obtain ⟨A2, d2, rfl, _⟩ := p2.row.form; obtain ⟨k0, k1, k2⟩ := H2.out.cells; clear p2 e2 o2 g2)
          go_wp2_with (go_at_call 56; (with_reducible refine Calls.mono (add_any H2.out.st.inn H2.out.pr (s1 : Int) (s2 : Int) (by have := HLEN.out; have := N2.out; have := HK2.out; omega) HQL.out (fun p hp => Nat.le_trans (H2.out.st.fit _ (List.mem_map_of_mem hp)) HNB.out) (fun _ => by omega)) ?_); rintro r w3 ⟨v3, L3, rfl, p3, e3, o3, g3⟩; have H3 := hide (OutB.put H2.out p3 e3 o3 g3 HQN.out); have E3 := hide e3; have N3 := hide (len_step e3); obtain ⟨A3, d3, rfl, _⟩ := p3.row.form; obtain ⟨k0, k1, k2⟩ := H3.out.cells; clear p3 e3 o3 g3)
          go_roundw
          case rel =>
            refine ⟨k + 1, L3, HLT.out, by go_num, H3.out.st, ?_, by have := N2.out; have := N3.out; have := HLEN.out; omega⟩
            have e2 := E2.out
            have e3 := E3.out
            simp only [Int.toNat_natCast] at e2 e3
            rw [foldl_snoc _ _ _ _ _ HPP.out, ← HFO.out, e3, e2, HM1.out, HS1.out, HS2.out, HA1.out]
            unfold insStep
            rw [if_pos HT.out]
          case measure => have := HLT.out; simp [intOf]; omega
        · have t1 : decide (at_ < pt) = false := by simpa using ht
          have t2 : decide ((at_ : Int) < (pt : Int)) = false := by simp; omega
          have t3 : ¬ (at_ : Int) < (pt : Int) := by omega
          have HT := hide ht
          clear ht
          go_wp2_with (go_at_call 56; (with_reducible refine Calls.mono (add_any H1.out.st.inn H1.out.pr (pf : Int) (m1 : Int) (by have := HLEN.out; have := HK2.out; omega) HQL.out (fun p hp => Nat.le_trans (H1.out.st.fit _ (List.mem_map_of_mem hp)) HNB.out) (fun _ => by omega)) ?_); rintro r w2 ⟨v2, L2, rfl, p2, e2, o2, g2⟩; have H2 := hide (OutB.put H1.out p2 e2 o2 g2 HQN.out); have E2 := hide e2; have N2 := hide (len_step e2); obtain ⟨A2, d2, rfl, _⟩ := p2.row.form; obtain ⟨k0, k1, k2⟩ := H2.out.cells; clear p2 e2 o2 g2)
          go_roundw
          case rel =>
            refine ⟨k + 1, L2, HLT.out, by go_num, H2.out.st, ?_, by have := N2.out; have := HLEN.out; omega⟩
            have e2 := E2.out
            simp only [Int.toNat_natCast] at e2
            rw [foldl_snoc _ _ _ _ _ HPP.out, ← HFO.out, e2, HM1.out]
            unfold insStep
            rw [if_neg HT.out]
          case measure => have := HLT.out; simp [intOf]; omega

      · obtain rfl : k = nn := by omega
        have y1 : decide (k < k) = false := by simp
        have y2 : decide ((k : Int) < (k : Int)) = false := by simp
        have HST := hide hst
        have hkb := HP.out.below hst.bel
        have k0 := hkb.box.cell 0
        have kf := hkb.box.frozen 0
        clear hst hfo hlen hlt hk hkb
        go_wp2
        go_ret
        refine ⟨rfl, ?_⟩
        have e := HFO.out
        rw [List.take_of_length_le (by rw [pcs_len, ← HNN.out]; exact Nat.le_refl _)] at e
        have hm := HP.out.store (F := fun _ => False) (Only.of_below HST.out.bel) (fun g h => h.elim) HST.out.inn (by rw [e]; exact HNF.out) (fun g hg => .inr (HST.out.own g hg)) rfl
        rw [e] at hm
        exact hm
  · obtain ⟨m, g9, o9, hm, rfl, ct⟩ := last_cells HP.out.inn HNN.out (by omega)
    have wq : IntKind.i64.wrap ((nn : Int) - 1) = (m : Int) := by rw [show (nn : Int) - 1 = (m : Int) by omega]; exact IntWalk.i64_in _ (by omega)
    have y0 : decide ((0 : Int) ≤ (m : Int)) = true := by simp
    have y1 : (m : Int) < (nn : Int) := by omega
    have y2 : decide ((m : Int) < (nn : Int)) = true := by simp; omega
    have y3 : decide (m < nn) = true := by simp; omega
    have hT := hg.ends
    obtain ⟨T, hTe⟩ : ∃ T, T = endP (pcs L) := ⟨_, rfl⟩
    rw [← hTe] at ct hEQ hEB hT
    have HM := hide hm
    have ws : IntKind.i64.wrap ((T : Int) + (n : Int)) = ((T + n : Nat) : Int) := by rw [show ((T : Int) + (n : Int)) = ((T + n : Nat) : Int) by omega]; exact IntWalk.i64_in _ (by omega)
    obtain ⟨S, hS⟩ : ∃ S, S = T + n := ⟨_, rfl⟩
    rw [← hS] at ws
    by_cases hc : at_ < T
    · have v1 : decide (at_ < T) = true := by simpa using hc
      have v2 : decide ((at_ : Int) < (T : Int)) = true := by simp; omega
      have v3 : (at_ : Int) < (T : Int) := by omega
      by_cases hd : 65537 < S
      · have v4 : decide (65537 < S) = true := by simpa using hd
        have v5 : decide ((65537 : Int) < (S : Int)) = true := by simp; omega
        have v6 : (65537 : Int) < (S : Int) := by omega
        obtain ⟨e1, e2⟩ := hEB ⟨hc, by omega⟩
        rw [e1, e2]
        clear h hg hLs hEQ hEB ha hn hnn e1 e2 hN h0 hm hT hTe hc hd hS
        go_enter Try.func19, Try.ntmps19
        go_wp2_with (go_at_call 52; (with_reducible refine Calls.mono HNO.out ?_); rintro r w2 ⟨rfl, rfl⟩)
        go_ret
        exact ⟨rfl, HSAME.out _ (Below.refl _ _)⟩
      · have v4 : decide (65537 < S) = false := by simpa using hd
        have v5 : decide ((65537 : Int) < (S : Int)) = false := by simp; omega
        have v6 : ¬ (65537 : Int) < (S : Int) := by omega
        obtain ⟨e1, e2⟩ := hEQ (by omega)
        rw [e1, e2]
        clear h hg hLs hEQ hEB ha hn hnn e1 e2 hN h0 hm hT hTe hc hd hS
        go_enter Try.func19, Try.ntmps19
        go_wp2_with (go_at_call 52; (with_reducible refine Calls.mono HNO.out ?_); rintro r w2 ⟨rfl, rfl⟩)
        go_loopw [8, 68] (fun ov iv wr => ∃ (k : Nat) (L' : List (Pc × Value)), k ≤ nn ∧ iv = .int .i64 (k : Int) ∧ OutAt w wr ov L' N ∧ pcs L' = ((pcs L).take k).foldl (insStep at_ n) [] ∧ L'.length ≤ 2 * k) (fun _ iv _ => nn - (intOf iv).toNat)
        case atStart => exact ⟨0, [], Nat.zero_le _, rfl, HL0.out, rfl, Nat.zero_le _⟩
        case round =>
          obtain ⟨k, L', hk, rfl, hst, hfo, hlen⟩ := hrel
          obtain ⟨A1, d1, rfl, _⟩ := hst.inn.row.form
          have HFO := hide hfo
          have HLEN := hide hlen
          have HK2 := hide (show 2 * k ≤ 140000 by omega)
          by_cases hlt : k < nn
          · have y1 : decide (k < nn) = true := by simpa using hlt
            have y2 : decide ((k : Int) < (nn : Int)) = true := by simp; omega
            have y3 : (k : Int) < (nn : Int) := by omega
            obtain ⟨⟨⟨pf, pt, q⟩, pv⟩, hp⟩ : ∃ p, L[k]? = some p := ⟨_, List.getElem?_eq_getElem (by rw [← HNN.out]; exact hlt)⟩
            have hmem : (⟨pf, pt, q⟩ : Pc) ∈ pcs L := List.mem_map_of_mem (f := Prod.fst) (List.mem_of_getElem? hp)
            have hpp : (pcs L)[k]? = some ⟨pf, pt, q⟩ := by unfold pcs; rw [List.getElem?_map, hp]; rfl
            have hrd := HP.out.inn.rd.below hst.bel
            obtain ⟨g, off, Ap, cp, e1, rfl, p0, p1, p2⟩ := hrd.at_ HNN.out hp
            first | subst e1 | (injection e1 with e1; injection e1 with e3 e4; subst e3 e4)
            have hpv := hrd.inn _ (List.mem_of_getElem? hp)
            have hrng := HGO.out.mem hmem
            have H1 := hide (OutB.of hst hpv)
            have HQN := hide (show q.length ≤ N from HFI.out _ hmem)
            have HQL := hide (show q.length ≤ 1000000 from Nat.le_trans HQN.out HNB.out)
            have HPP := hide hpp
            have HLT := hide hlt
            obtain ⟨b0, b1, b2⟩ := H1.out.cells
            have hpt : pt ≤ 65537 := hrng.2.2.1
            have hpf : pf < pt := hrng.2.1
            obtain ⟨m1, hm1⟩ : ∃ m, m = min pt at_ := ⟨_, rfl⟩
            obtain ⟨a1, ha1⟩ : ∃ m, m = max pf at_ := ⟨_, rfl⟩
            have q1 : ∀ (w : World), (Builtin.min_ #[3, 3] 3 #[.int .i64 (pt : Int), .int .i64 (at_ : Int)]).run Try.prog w = .ok (.int .i64 (m1 : Int)) w := fun w => by rw [run_min_int2, hm1]; congr 3; split <;> omega
            have q2 : ∀ (w : World), (Builtin.max_ #[3, 3] 3 #[.int .i64 (pf : Int), .int .i64 (at_ : Int)]).run Try.prog w = .ok (.int .i64 (a1 : Int)) w := fun w => by rw [run_max_int2, ha1]; congr 3; split <;> omega
            have q3 : IntKind.i64.wrap ((a1 : Int) + (n : Int)) = ((a1 + n : Nat) : Int) := by rw [show ((a1 : Int) + (n : Int)) = ((a1 + n : Nat) : Int) by omega]; exact IntWalk.i64_in _ (by omega)
            have q4 : IntKind.i64.wrap ((pt : Int) + (n : Int)) = ((pt + n : Nat) : Int) := by rw [show ((pt : Int) + (n : Int)) = ((pt + n : Nat) : Int) by omega]; exact IntWalk.i64_in _ (by omega)
            obtain ⟨s1, hs1⟩ : ∃ s, s = a1 + n := ⟨_, rfl⟩
            obtain ⟨s2, hs2⟩ : ∃ s, s = pt + n := ⟨_, rfl⟩
            rw [← hs1] at q3
            rw [← hs2] at q4
            have HM1 := hide hm1
            have HA1 := hide ha1
            have HS1 := hide hs1
            have HS2 := hide hs2
            clear hm1 ha1 hs1 hs2
            clear hst hfo hrd hpv hp hpp hlt hlen hk hmem hrng
            by_cases ht : at_ < pt
            · have t1 : decide (at_ < pt) = true := by simpa using ht
              have t2 : decide ((at_ : Int) < (pt : Int)) = true := by simp; omega
              have t3 : (at_ : Int) < (pt : Int) := by omega
              have HT := hide ht
              clear ht
              go_upto_region 15 with (go_at_call 56; (with_reducible refine Calls.mono (add_any H1.out.st.inn H1.out.pr (pf : Int) (m1 : Int) (by have := HLEN.out; have := HK2.out; omega) HQL.out (fun p hp => Nat.le_trans (H1.out.st.fit _ (List.mem_map_of_mem hp)) HNB.out) (fun _ => by omega)) ?_); rintro r w2 ⟨v2, L2, rfl, p2, e2, o2, g2⟩; have H2 := hide (OutB.put H1.out p2 e2 o2 g2 HQN.out); have E2 := hide e2; have N2 := hide (len_step e2); obtain ⟨A2, d2, rfl, _⟩ := p2.row.form; obtain ⟨k0, k1, k2⟩ := H2.out.cells; clear p2 e2 o2 g2)
              go_wp2_with (go_at_call 56; (with_reducible refine Calls.mono (add_any H2.out.st.inn H2.out.pr (s1 : Int) (s2 : Int) (by have := HLEN.out; have := N2.out; have := HK2.out; omega) HQL.out (fun p hp => Nat.le_trans (H2.out.st.fit _ (List.mem_map_of_mem hp)) HNB.out) (fun _ => by omega)) ?_); rintro r w3 ⟨v3, L3, rfl, p3, e3, o3, g3⟩; have H3 := hide (OutB.put H2.out p3 e3 o3 g3 HQN.out); have E3 := hide e3; have N3 := hide (len_step e3); obtain ⟨A3, d3, rfl, _⟩ := p3.row.form; obtain ⟨k0, k1, k2⟩ := H3.out.cells; clear p3 e3 o3 g3)
              go_roundw
              case rel =>
                refine ⟨k + 1, L3, HLT.out, by go_num, H3.out.st, ?_, by have := N2.out; have := N3.out; have := HLEN.out; omega⟩
                have e2 := E2.out
                have e3 := E3.out
                simp only [Int.toNat_natCast] at e2 e3
                rw [foldl_snoc _ _ _ _ _ HPP.out, ← HFO.out, e3, e2, HM1.out, HS1.out, HS2.out, HA1.out]
                unfold insStep
                rw [if_pos HT.out]
              case measure => have := HLT.out; simp [intOf]; omega
            · have t1 : decide (at_ < pt) = false := by simpa using ht
              have t2 : decide ((at_ : Int) < (pt : Int)) = false := by simp; omega
              have t3 : ¬ (at_ : Int) < (pt : Int) := by omega
              have HT := hide ht
              clear ht
              go_wp2_with (go_at_call 56; (with_reducible refine Calls.mono (add_any H1.out.st.inn H1.out.pr (pf : Int) (m1 : Int) (by have := HLEN.out; have := HK2.out; omega) HQL.out (fun p hp => Nat.le_trans (H1.out.st.fit _ (List.mem_map_of_mem hp)) HNB.out) (fun _ => by omega)) ?_); rintro r w2 ⟨v2, L2, rfl, p2, e2, o2, g2⟩; have H2 := hide (OutB.put H1.out p2 e2 o2 g2 HQN.out); have E2 := hide e2; have N2 := hide (len_step e2); obtain ⟨A2, d2, rfl, _⟩ := p2.row.form; obtain ⟨k0, k1, k2⟩ := H2.out.cells; clear p2 e2 o2 g2)
              go_roundw
              case rel =>
                refine ⟨k + 1, L2, HLT.out, by go_num, H2.out.st, ?_, by have := N2.out; have := HLEN.out; omega⟩
                have e2 := E2.out
                simp only [Int.toNat_natCast] at e2
                rw [foldl_snoc _ _ _ _ _ HPP.out, ← HFO.out, e2, HM1.out]
                unfold insStep
                rw [if_neg HT.out]
              case measure => have := HLT.out; simp [intOf]; omega

          · obtain rfl : k = nn := by omega
            have y1 : decide (k < k) = false := by simp
            have y2 : decide ((k : Int) < (k : Int)) = false := by simp
            have HST := hide hst
            have hkb := HP.out.below hst.bel
            have k0 := hkb.box.cell 0
            have kf := hkb.box.frozen 0
            clear hst hfo hlen hlt hk hkb
            go_wp2
            go_ret
            refine ⟨rfl, ?_⟩
            have e := HFO.out
            rw [List.take_of_length_le (by rw [pcs_len, ← HNN.out]; exact Nat.le_refl _)] at e
            have hm := HP.out.store (F := fun _ => False) (Only.of_below HST.out.bel) (fun g h => h.elim) HST.out.inn (by rw [e]; exact HNF.out) (fun g hg => .inr (HST.out.own g hg)) rfl
            rw [e] at hm
            exact hm
    · have v1 : decide (at_ < T) = false := by simpa using hc
      have v2 : decide ((at_ : Int) < (T : Int)) = false := by simp; omega
      have v3 : ¬ (at_ : Int) < (T : Int) := by omega
      obtain ⟨e1, e2⟩ := hEQ (by omega)
      rw [e1, e2]
      clear h hg hLs hEQ hEB ha hn hnn e1 e2 hN h0 hm hT hTe hc hS
      go_enter Try.func19, Try.ntmps19
      go_wp2_with (go_at_call 52; (with_reducible refine Calls.mono HNO.out ?_); rintro r w2 ⟨rfl, rfl⟩)
      go_loopw [8, 68] (fun ov iv wr => ∃ (k : Nat) (L' : List (Pc × Value)), k ≤ nn ∧ iv = .int .i64 (k : Int) ∧ OutAt w wr ov L' N ∧ pcs L' = ((pcs L).take k).foldl (insStep at_ n) [] ∧ L'.length ≤ 2 * k) (fun _ iv _ => nn - (intOf iv).toNat)
      case atStart => exact ⟨0, [], Nat.zero_le _, rfl, HL0.out, rfl, Nat.zero_le _⟩
      case round =>
        obtain ⟨k, L', hk, rfl, hst, hfo, hlen⟩ := hrel
        obtain ⟨A1, d1, rfl, _⟩ := hst.inn.row.form
        have HFO := hide hfo
        have HLEN := hide hlen
        have HK2 := hide (show 2 * k ≤ 140000 by omega)
        by_cases hlt : k < nn
        · have y1 : decide (k < nn) = true := by simpa using hlt
          have y2 : decide ((k : Int) < (nn : Int)) = true := by simp; omega
          have y3 : (k : Int) < (nn : Int) := by omega
          obtain ⟨⟨⟨pf, pt, q⟩, pv⟩, hp⟩ : ∃ p, L[k]? = some p := ⟨_, List.getElem?_eq_getElem (by rw [← HNN.out]; exact hlt)⟩
          have hmem : (⟨pf, pt, q⟩ : Pc) ∈ pcs L := List.mem_map_of_mem (f := Prod.fst) (List.mem_of_getElem? hp)
          have hpp : (pcs L)[k]? = some ⟨pf, pt, q⟩ := by unfold pcs; rw [List.getElem?_map, hp]; rfl
          have hrd := HP.out.inn.rd.below hst.bel
          obtain ⟨g, off, Ap, cp, e1, rfl, p0, p1, p2⟩ := hrd.at_ HNN.out hp
          first | subst e1 | (injection e1 with e1; injection e1 with e3 e4; subst e3 e4)
          have hpv := hrd.inn _ (List.mem_of_getElem? hp)
          have hrng := HGO.out.mem hmem
          have H1 := hide (OutB.of hst hpv)
          have HQN := hide (show q.length ≤ N from HFI.out _ hmem)
          have HQL := hide (show q.length ≤ 1000000 from Nat.le_trans HQN.out HNB.out)
          have HPP := hide hpp
          have HLT := hide hlt
          obtain ⟨b0, b1, b2⟩ := H1.out.cells
          have hpt : pt ≤ 65537 := hrng.2.2.1
          have hpf : pf < pt := hrng.2.1
          obtain ⟨m1, hm1⟩ : ∃ m, m = min pt at_ := ⟨_, rfl⟩
          obtain ⟨a1, ha1⟩ : ∃ m, m = max pf at_ := ⟨_, rfl⟩
          have q1 : ∀ (w : World), (Builtin.min_ #[3, 3] 3 #[.int .i64 (pt : Int), .int .i64 (at_ : Int)]).run Try.prog w = .ok (.int .i64 (m1 : Int)) w := fun w => by rw [run_min_int2, hm1]; congr 3; split <;> omega
          have q2 : ∀ (w : World), (Builtin.max_ #[3, 3] 3 #[.int .i64 (pf : Int), .int .i64 (at_ : Int)]).run Try.prog w = .ok (.int .i64 (a1 : Int)) w := fun w => by rw [run_max_int2, ha1]; congr 3; split <;> omega
          have q3 : IntKind.i64.wrap ((a1 : Int) + (n : Int)) = ((a1 + n : Nat) : Int) := by rw [show ((a1 : Int) + (n : Int)) = ((a1 + n : Nat) : Int) by omega]; exact IntWalk.i64_in _ (by omega)
          have q4 : IntKind.i64.wrap ((pt : Int) + (n : Int)) = ((pt + n : Nat) : Int) := by rw [show ((pt : Int) + (n : Int)) = ((pt + n : Nat) : Int) by omega]; exact IntWalk.i64_in _ (by omega)
          obtain ⟨s1, hs1⟩ : ∃ s, s = a1 + n := ⟨_, rfl⟩
          obtain ⟨s2, hs2⟩ : ∃ s, s = pt + n := ⟨_, rfl⟩
          rw [← hs1] at q3
          rw [← hs2] at q4
          have HM1 := hide hm1
          have HA1 := hide ha1
          have HS1 := hide hs1
          have HS2 := hide hs2
          clear hm1 ha1 hs1 hs2
          clear hst hfo hrd hpv hp hpp hlt hlen hk hmem hrng
          by_cases ht : at_ < pt
          · have t1 : decide (at_ < pt) = true := by simpa using ht
            have t2 : decide ((at_ : Int) < (pt : Int)) = true := by simp; omega
            have t3 : (at_ : Int) < (pt : Int) := by omega
            have HT := hide ht
            clear ht
            go_upto_region 15 with (go_at_call 56; (with_reducible refine Calls.mono (add_any H1.out.st.inn H1.out.pr (pf : Int) (m1 : Int) (by have := HLEN.out; have := HK2.out; omega) HQL.out (fun p hp => Nat.le_trans (H1.out.st.fit _ (List.mem_map_of_mem hp)) HNB.out) (fun _ => by omega)) ?_); rintro r w2 ⟨v2, L2, rfl, p2, e2, o2, g2⟩; have H2 := hide (OutB.put H1.out p2 e2 o2 g2 HQN.out); have E2 := hide e2; have N2 := hide (len_step e2); obtain ⟨A2, d2, rfl, _⟩ := p2.row.form; obtain ⟨k0, k1, k2⟩ := H2.out.cells; clear p2 e2 o2 g2)
            go_wp2_with (go_at_call 56; (with_reducible refine Calls.mono (add_any H2.out.st.inn H2.out.pr (s1 : Int) (s2 : Int) (by have := HLEN.out; have := N2.out; have := HK2.out; omega) HQL.out (fun p hp => Nat.le_trans (H2.out.st.fit _ (List.mem_map_of_mem hp)) HNB.out) (fun _ => by omega)) ?_); rintro r w3 ⟨v3, L3, rfl, p3, e3, o3, g3⟩; have H3 := hide (OutB.put H2.out p3 e3 o3 g3 HQN.out); have E3 := hide e3; have N3 := hide (len_step e3); obtain ⟨A3, d3, rfl, _⟩ := p3.row.form; obtain ⟨k0, k1, k2⟩ := H3.out.cells; clear p3 e3 o3 g3)
            go_roundw
            case rel =>
              refine ⟨k + 1, L3, HLT.out, by go_num, H3.out.st, ?_, by have := N2.out; have := N3.out; have := HLEN.out; omega⟩
              have e2 := E2.out
              have e3 := E3.out
              simp only [Int.toNat_natCast] at e2 e3
              rw [foldl_snoc _ _ _ _ _ HPP.out, ← HFO.out, e3, e2, HM1.out, HS1.out, HS2.out, HA1.out]
              unfold insStep
              rw [if_pos HT.out]
            case measure => have := HLT.out; simp [intOf]; omega
          · have t1 : decide (at_ < pt) = false := by simpa using ht
            have t2 : decide ((at_ : Int) < (pt : Int)) = false := by simp; omega
            have t3 : ¬ (at_ : Int) < (pt : Int) := by omega
            have HT := hide ht
            clear ht
            go_wp2_with (go_at_call 56; (with_reducible refine Calls.mono (add_any H1.out.st.inn H1.out.pr (pf : Int) (m1 : Int) (by have := HLEN.out; have := HK2.out; omega) HQL.out (fun p hp => Nat.le_trans (H1.out.st.fit _ (List.mem_map_of_mem hp)) HNB.out) (fun _ => by omega)) ?_); rintro r w2 ⟨v2, L2, rfl, p2, e2, o2, g2⟩; have H2 := hide (OutB.put H1.out p2 e2 o2 g2 HQN.out); have E2 := hide e2; have N2 := hide (len_step e2); obtain ⟨A2, d2, rfl, _⟩ := p2.row.form; obtain ⟨k0, k1, k2⟩ := H2.out.cells; clear p2 e2 o2 g2)
            go_roundw
            case rel =>
              refine ⟨k + 1, L2, HLT.out, by go_num, H2.out.st, ?_, by have := N2.out; have := HLEN.out; omega⟩
              have e2 := E2.out
              simp only [Int.toNat_natCast] at e2
              rw [foldl_snoc _ _ _ _ _ HPP.out, ← HFO.out, e2, HM1.out]
              unfold insStep
              rw [if_neg HT.out]
            case measure => have := HLT.out; simp [intOf]; omega

        · obtain rfl : k = nn := by omega
          have y1 : decide (k < k) = false := by simp
          have y2 : decide ((k : Int) < (k : Int)) = false := by simp
          have HST := hide hst
          have hkb := HP.out.below hst.bel
          have k0 := hkb.box.cell 0
          have kf := hkb.box.frozen 0
          clear hst hfo hlen hlt hk hkb
          go_wp2
          go_ret
          refine ⟨rfl, ?_⟩
          have e := HFO.out
          rw [List.take_of_length_le (by rw [pcs_len, ← HNN.out]; exact Nat.le_refl _)] at e
          have hm := HP.out.store (F := fun _ => False) (Only.of_below HST.out.bel) (fun g h => h.elim) HST.out.inn (by rw [e]; exact HNF.out) (fun g hg => .inr (HST.out.own g hg)) rfl
          rw [e] at hm
          exact hm
end
end Go.Proofs.Ytgiogmbopiblmaa
