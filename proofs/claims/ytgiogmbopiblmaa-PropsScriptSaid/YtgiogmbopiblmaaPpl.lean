/- Pieces changed by a function. No condition but those written. -/
import Derived.Test.YtgiogmbopiblmaaPpk
namespace Go.Proofs.Ytgiogmbopiblmaa
open Go.RowKit

/-- Within a round: what the call keeps, the piece's box. -/
structure RSt (W w : World) (fid : Nat) (caps : Array Value) (sv : Value) (L : List (Pc × Value)) (a M g0 : Nat) (x : Pc) (pv : Value) : Prop where
  st : CSt W w fid caps sv L a M
  bx : Blk w g0 73 #[.int .i64 (x.fr : Int), .int .i64 (x.to : Int), pv]
  far : ¬ sv.ownBlock = some g0
  hi : W.heap.size + 3 ≤ g0
  pr : PrS w pv x.pr
section
variable {W w w' : World} {fid : Nat} {caps : Array Value} {sv sv' pv : Value} {L L' : List (Pc × Value)} {a M N g0 : Nat} {f : List Pr → List Pr} {x : Pc}
theorem RSt.of (h : CSt W w fid caps sv L a M) (hp : PrS w pv x.pr) : RSt W (w.alloc (.cells #[.int .i64 (x.fr : Int), .int .i64 (x.to : Int), pv] 73)) fid caps sv L a M w.heap.size x pv := by
  have hb := below_box w (.cells #[.int .i64 (x.fr : Int), .int .i64 (x.to : Int), pv] 73)
  have h3 := h.ba.lt
  refine ⟨h.below hb, Blk.new w _ _, fun e => ?_, by omega, hp.below hb⟩
  rcases h.inn.row.2 with ⟨e1, _⟩ | ⟨g1, o1, c1, cs1, e1, hh, _⟩
  · rw [e1] at e
    cases e
  · rw [e1] at e
    cases e
    exact absurd (lt_of_heap hh) (Nat.lt_irrefl _)
theorem RSt.below (h : RSt W w fid caps sv L a M g0 x pv) (hb : Below w.heap.size w w') : RSt W w' fid caps sv L a M g0 x pv :=
  ⟨h.st.below hb, h.bx.below hb h.bx.lt, h.far, h.hi, h.pr.below hb⟩
theorem RSt.cells (h : RSt W w fid caps sv L a M g0 x pv) : w.cell? ⟨W.heap.size + 1, 0, none⟩ = some sv ∧ w.cell? ⟨W.heap.size + 1 + 1, 0, none⟩ = some (.int .i64 (a : Int)) ∧ w.cell? ⟨W.heap.size, 0, none⟩ = some (.func (.func fid) #[] caps) ∧ w.cell? ⟨g0, 0, none⟩ = some (.int .i64 (x.fr : Int)) ∧ w.cell? ⟨g0, 1, none⟩ = some (.int .i64 (x.to : Int)) ∧ w.cell? ⟨g0, 2, none⟩ = some pv :=
  ⟨h.st.cells.1, h.st.cells.2.1, h.st.cells.2.2, (h.bx.cell 0).trans rfl, (h.bx.cell 1).trans rfl, (h.bx.cell 2).trans rfl⟩
theorem RSt.near (h : RSt W w fid caps sv L a M g0 x pv) (ho : Only (fun g => sv.ownBlock = some g) w w') : w'.cell? ⟨W.heap.size + 1, 0, none⟩ = some sv ∧ w'.cell? ⟨W.heap.size + 1 + 1, 0, none⟩ = some (.int .i64 (a : Int)) ∧ w'.cell? ⟨W.heap.size, 0, none⟩ = some (.func (.func fid) #[] caps) ∧ w'.cell? ⟨g0, 0, none⟩ = some (.int .i64 (x.fr : Int)) ∧ w'.cell? ⟨g0, 1, none⟩ = some (.int .i64 (x.to : Int)) ∧ w'.cell? ⟨g0, 2, none⟩ = some pv ∧ w'.frozen? ⟨W.heap.size + 1, 0, none⟩ = false := by
  obtain ⟨k0, k1, k2, k3⟩ := h.st.near ho
  have k4 := h.bx.only ho h.far
  exact ⟨k0, k1, k2, (k4.cell 0).trans rfl, (k4.cell 1).trans rfl, (k4.cell 2).trans rfl, k3⟩
theorem PrS.set {w : World} {pv v : Value} {q : List Pr} {g : Nat} {T : TypeId} {cs : Array Value} (h : PrS w pv q) (hb : Blk w g T cs) (hT : 36 ≠ T) (i : Nat) : PrS (w.setCell ⟨g, i, none⟩ v) pv q := by
  have hst : Only (· = g) w (w.setCell ⟨g, i, none⟩ v) := (Only.refl (· = g) w).setCell (p := ⟨g, i, none⟩) (.inl rfl) _
  refine Sl.only h hst fun k hk e => ?_
  subst e
  exact Sl.ne_blk h hb hT hk
theorem RSt.put {y z : Nat} {q : List Pr} (h : RSt W w fid caps sv L a M g0 x pv) (hp : PcsAt w' sv' L') (he : pcs L' = addP (pcs L) y z q) (ho : Only (fun g => sv.ownBlock = some g) w w') (hv : sv'.ownBlock = sv.ownBlock ∨ ∃ g, sv'.ownBlock = some g ∧ w.heap.size ≤ g) (hq : q.length ≤ M) : RSt W (w'.setCell ⟨W.heap.size + 1, 0, none⟩ sv') fid caps sv' L' a M g0 x pv := by
  have hlt := h.bx.lt
  have hi := h.hi
  have k1 := h.st.bo.only ho fun e => by have := h.st.own _ e; omega
  refine ⟨h.st.put hp he ho hv hq, (h.bx.only ho h.far).far (by simp only []; omega) _, fun e => ?_, hi, PrS.set (h.pr.apart h.st.inn.row ho) k1 (by decide) 0⟩
  rcases hv with e1 | ⟨g, e1, h2⟩
  · exact h.far (e1 ▸ e)
  · rw [e1] at e
    cases e
    omega
theorem RSt.at_ (h : RSt W w fid caps sv L a M g0 x pv) (e : Nat) : RSt W (w.setCell ⟨W.heap.size + 1 + 1, 0, none⟩ (.int .i64 (e : Int))) fid caps sv L e M g0 x pv := by
  have hi := h.hi
  exact ⟨h.st.at_ e, h.bx.far (by simp only []; omega) _, h.far, h.hi, h.pr.set h.st.ba (by decide) 0⟩
theorem RSt.fill {a' : Nat} (h : RSt W w fid caps sv L a M g0 x pv) (hc : CSt W w' fid caps sv' L' a' M) (ho : Only (fun g => g = W.heap.size + 1 ∨ g = W.heap.size + 1 + 1 ∨ sv.ownBlock = some g) w w') (hv : sv'.ownBlock = sv.ownBlock ∨ ∃ g, sv'.ownBlock = some g ∧ w.heap.size ≤ g) : RSt W w' fid caps sv' L' a' M g0 x pv := by
  have hi := h.hi
  have hlt := h.bx.lt
  refine ⟨hc, h.bx.only ho ?_, fun e => ?_, hi, ?_⟩
  · rintro (e | e | e)
    · omega
    · omega
    · exact h.far e
  · rcases hv with e1 | ⟨g, e1, h2⟩
    · exact h.far (e1 ▸ e)
    · rw [e1] at e
      cases e
      omega
  · refine Sl.only h.pr ho fun k hk => ?_
    rintro (e | e | e)
    · exact Sl.ne_blk h.pr (e ▸ h.st.bo) (by decide) hk
    · exact Sl.ne_blk h.pr (e ▸ h.st.ba) (by decide) hk
    · exact Sl.apart h.pr h.st.inn.row (by decide) k hk e
theorem CSt.fits (h : CSt W w fid caps sv L a M) (hM : M ≤ 1000000) : ∀ p ∈ L, p.1.pr.length ≤ 1000000 := fun _ hp => Nat.le_trans (h.fit _ (List.mem_map_of_mem hp)) hM
theorem len_step {y z : Nat} {q : List Pr} (e : pcs L' = addP (pcs L) y z q) : L'.length ≤ L.length + 1 := by
  rw [← pcs_len, e, ← pcs_len]
  exact addP_len ..
/-- What changed hands back. -/
def ChgRes (W : World) (l : List Pc) (e : Ending) (w' : World) : Prop := ∃ sv' L', e = .returned sv' ∧ PcsAt w' sv' L' ∧ pcs L' = l ∧ Below W.heap.size W w' ∧ (∀ g, sv'.ownBlock = some g → W.heap.size ≤ g) ∧ L'.length ≤ 600000
/-- The state behind k pieces. -/
def FoldAt (fr en : Nat) (f : List Pr → List Pr) (L0 : List (Pc × Value)) (k : Nat) (l : List Pc) (a : Nat) : Prop := (l, a) = chgFold fr en f ((pcs L0).take k) ([], fr)
theorem fold_step {fr en k : Nat} {L0 : List (Pc × Value)} {l : List Pc} (h : FoldAt fr en f L0 k l a) (hp : L0[k]? = some (x, pv)) {st : List Pc × Nat} (hs : st = chgStep fr en f (l, a) x) : FoldAt fr en f L0 (k + 1) st.1 st.2 := by
  have hpp : (pcs L0)[k]? = some x := by unfold pcs; rw [List.getElem?_map, hp]; rfl
  unfold FoldAt at h ⊢
  rw [List.take_add_one, hpp]
  unfold chgFold at h ⊢
  rw [List.foldl_append, ← h, hs]
  rfl
section
variable {fr en k pf pt : Nat} {q : List Pr} {L0 : List (Pc × Value)} {l l2 l3 l5 l6 l7 : List Pc}
theorem chgA_eq (h2 : l2 = addP l pf (min pt fr) q) : chgA fr (l, a) ⟨pf, pt, q⟩ = (l2, a) := by rw [h2]; rfl
theorem chgB_eq (hab : max pf fr < min pt en) (h3 : l3 = fillP (f []) l2 a (max pf fr)) (h5 : l5 = addP l3 (max pf fr) (min pt en) (f q)) : chgB fr en f (l2, a) ⟨pf, pt, q⟩ = (l5, min pt en) := by
  unfold chgB
  rw [if_pos hab, h5, h3]
theorem chgC_eq (ht : en < pt) (h6 : l6 = fillP (f []) l5 a en) (h7 : l7 = addP l6 (max pf en) pt q) : chgC en f (l5, a) ⟨pf, pt, q⟩ = (l7, if a < en then en else a) := by
  unfold chgC
  rw [if_pos ht, h7, h6]
theorem fold_tt (hfo : FoldAt fr en f L0 k l a) (hp : L0[k]? = some (⟨pf, pt, q⟩, pv)) (h2 : l2 = addP l pf (min pt fr) q) (hab : max pf fr < min pt en) (h3 : l3 = fillP (f []) l2 a (max pf fr)) (h5 : l5 = addP l3 (max pf fr) (min pt en) (f q)) (ht : en < pt) (h6 : l6 = fillP (f []) l5 (min pt en) en) (h7 : l7 = addP l6 (max pf en) pt q) : FoldAt fr en f L0 (k + 1) l7 (if min pt en < en then en else min pt en) :=
  fold_step hfo hp (st := (l7, if min pt en < en then en else min pt en)) (by unfold chgStep; rw [chgA_eq h2, chgB_eq hab h3 h5, chgC_eq ht h6 h7])
theorem fold_tf (hfo : FoldAt fr en f L0 k l a) (hp : L0[k]? = some (⟨pf, pt, q⟩, pv)) (h2 : l2 = addP l pf (min pt fr) q) (hab : max pf fr < min pt en) (h3 : l3 = fillP (f []) l2 a (max pf fr)) (h5 : l5 = addP l3 (max pf fr) (min pt en) (f q)) (ht : ¬ en < pt) : FoldAt fr en f L0 (k + 1) l5 (min pt en) :=
  fold_step hfo hp (st := (l5, min pt en)) (by unfold chgStep chgC; rw [chgA_eq h2, chgB_eq hab h3 h5, if_neg ht])
theorem fold_ft (hfo : FoldAt fr en f L0 k l a) (hp : L0[k]? = some (⟨pf, pt, q⟩, pv)) (h2 : l2 = addP l pf (min pt fr) q) (hab : ¬ max pf fr < min pt en) (ht : en < pt) (h6 : l6 = fillP (f []) l2 a en) (h7 : l7 = addP l6 (max pf en) pt q) : FoldAt fr en f L0 (k + 1) l7 (if a < en then en else a) :=
  fold_step hfo hp (st := (l7, if a < en then en else a)) (by unfold chgStep chgB; rw [chgA_eq h2, if_neg hab, chgC_eq ht h6 h7])
theorem fold_ff (hfo : FoldAt fr en f L0 k l a) (hp : L0[k]? = some (⟨pf, pt, q⟩, pv)) (h2 : l2 = addP l pf (min pt fr) q) (hab : ¬ max pf fr < min pt en) (ht : ¬ en < pt) : FoldAt fr en f L0 (k + 1) l2 a :=
  fold_step hfo hp (st := (l2, a)) (by unfold chgStep chgB chgC; rw [chgA_eq h2, if_neg hab, if_neg ht])
end
set_option maxRecDepth 100000 in
set_option maxHeartbeats 16000000 in
theorem changed_any (sv0 : Value) (L0 : List (Pc × Value)) (hf : FnOk W fid caps f N M) (h : PcsRd W sv0 L0) (fr en : Nat) (hl : L0.length ≤ 100000) (hM : M ≤ 1000000) (hN : ∀ p ∈ pcs L0, p.pr.length ≤ N) (hNM : N ≤ M) :
    Calls Try.prog 74 #[sv0, .int .i64 (fr : Int), .int .i64 (en : Int), .func (.func fid) #[] caps] W (ChgRes W (changedP fr en f (pcs L0))) := by
  obtain ⟨A, c, rfl, _⟩ := id h.row
  have HF := hide hf
  have hcf := hf.cf
  have HRD := hide h
  have HM := hide hM
  have HN := hide hN
  have HNM := hide hNM
  obtain ⟨n, hn⟩ : ∃ n, n = L0.length := ⟨_, rfl⟩
  rw [← hn] at HRD hl ⊢
  have HNN := hide hn
  have hl2 : (n : Int) ≤ 100000 := by omega
  have H0 := hide (show CSt W (((W.alloc (.cells #[.func (.func fid) #[] caps] 75)).alloc (.cells #[.slice none 0 0] 67)).alloc (.cells #[.int .i64 (fr : Int)] 3)) fid caps (.slice none 0 0) [] fr M from by
    refine ⟨(((Below.refl _ W).alloc (Nat.le_refl _) _).alloc (by simp) _).alloc (by simp; omega) _, ((Blk.new W _ _).alloc _).alloc _, ?_, ?_, PcsAt.nil _, fun g hg => (by cases hg), fun p hp => (by cases hp)⟩
    · have := Blk.new (W.alloc (.cells #[.func (.func fid) #[] caps] 75)) 67 #[.slice none 0 0]
      simp only [World.size_alloc] at this
      exact this.alloc _
    · have := Blk.new ((W.alloc (.cells #[.func (.func fid) #[] caps] 75)).alloc (.cells #[.slice none 0 0] 67)) 3 #[.int .i64 (fr : Int)]
      simp only [World.size_alloc] at this
      exact this)
  clear hf h hM hN hNM hn
  go_enter Try.func74, Try.ntmps74
  go_wp2
  go_loopw [21] (fun i wr => ∃ (k : Nat) (v : Value) (L : List (Pc × Value)) (a : Nat), k ≤ n ∧ i = .int .i64 (k : Int) ∧ CSt W wr fid caps v L a M ∧ FoldAt fr en f L0 k (pcs L) a ∧ L.length ≤ 5 * k) (fun i _ => n - (intOf i).toNat)
  case atStart => exact ⟨0, _, [], fr, Nat.zero_le _, rfl, H0.out, rfl, Nat.zero_le _⟩
  case round =>
    clear H0
    obtain ⟨k, v, L, a, hk, rfl, hst, hfo, hlen⟩ := hrel
    have HFO := hide hfo
    by_cases hlt : k < n
    · have y1 : decide (k < n) = true := by simpa using hlt
      have y2 : decide ((k : Int) < (n : Int)) = true := by simp; omega
      have y3 : (k : Int) < (n : Int) := by omega
      obtain ⟨⟨⟨pf, pt, q⟩, pv⟩, hp⟩ : ∃ p, L0[k]? = some p := ⟨_, List.getElem?_eq_getElem (by rw [← HNN.out]; exact hlt)⟩
      have hrd := HRD.out.below (hst.bel)
      obtain ⟨g, off, Ap, cp, rfl, rfl, p0, p1, p2⟩ := hrd.at_ HNN.out hp
      have hpv := hrd.inn _ (List.mem_of_getElem? hp)
      have H1 := hide (RSt.of hst hpv)
      have HQ := hide (show q.length ≤ N from HN.out ⟨pf, pt, q⟩ (List.mem_map_of_mem (List.mem_of_getElem? hp)))
      have HP := hide hp
      have HLT := hide hlt
      have HK5 := hide (show 5 * k ≤ 500000 by omega)
      have HQM := hide (Nat.le_trans (Nat.le_trans HQ.out HNM.out) HM.out)
      have HFM := hide (Nat.le_trans (HF.out.len q HQ.out) HM.out)
      have HLEN := hide hlen
      obtain ⟨Av, cv, rfl, _⟩ := hst.inn.row.form
      obtain ⟨c0, c1, c2, b0, b1, b2⟩ := H1.out.cells
      obtain ⟨m1, hm1⟩ : ∃ m, m = min pt fr := ⟨_, rfl⟩
      obtain ⟨a1, ha1⟩ : ∃ m, m = max pf fr := ⟨_, rfl⟩
      obtain ⟨b1', hb1⟩ : ∃ m, m = min pt en := ⟨_, rfl⟩
      have q1 : ∀ (w : World), (Builtin.min_ #[3, 3] 3 #[.int .i64 (pt : Int), .int .i64 (fr : Int)]).run Try.prog w = .ok (.int .i64 (m1 : Int)) w := fun w => by rw [run_min_int2, hm1]; congr 3; split <;> omega
      have q2 : ∀ (w : World), (Builtin.max_ #[3, 3] 3 #[.int .i64 (pf : Int), .int .i64 (fr : Int)]).run Try.prog w = .ok (.int .i64 (a1 : Int)) w := fun w => by rw [run_max_int2, ha1]; congr 3; split <;> omega
      have q3 : ∀ (w : World), (Builtin.min_ #[3, 3] 3 #[.int .i64 (pt : Int), .int .i64 (en : Int)]).run Try.prog w = .ok (.int .i64 (b1' : Int)) w := fun w => by rw [run_min_int2, hb1]; congr 3; split <;> omega
      have HM1 := hide hm1
      have HA1 := hide ha1
      have HB1 := hide hb1
      clear hst hfo hrd hpv hp hlt hlen hk hm1 ha1 hb1
      go_upto_region 9 with (go_at_call 56; (with_reducible refine Calls.mono (add_any H1.out.st.inn H1.out.pr (pf : Int) (m1 : Int) (by have := HLEN.out; have := HK5.out; omega) HQM.out (H1.out.st.fits HM.out) (fun _ => by omega)) ?_); rintro r w2 ⟨v2, L2, rfl, p2, e2, o2, g2⟩; rw [Int.toNat_natCast, Int.toNat_natCast] at e2; have H2 := hide (RSt.put H1.out p2 e2 o2 g2 (Nat.le_trans HQ.out HNM.out)); have E2 := hide e2; have N2 := hide (len_step e2); obtain ⟨x0, x1, x2, x3, x4, x5, x6⟩ := RSt.near H1.out o2; obtain ⟨A2, d2, rfl, _⟩ := p2.row.form; obtain ⟨k0, k1, k2, k3, k4, k5⟩ := H2.out.cells; have kf := H2.out.st.ba.frozen 0; clear p2 e2 o2 g2)
      go_region
      have H2d := hide (H2.out.below (Below.refl _ _).drew)
      clear H1 H2 b0 b1 b2 c0 c1 c2 p0 p1 p2 x0 x1 x2 x3 x4 x5 x6 k0 k1 k2 k3 k4 k5 q1 q2 q3 kf
      by_cases hab : a1 < b1'
      · have s1 : decide (a1 < b1') = true := by simpa using hab
        have s2 : decide ((a1 : Int) < (b1' : Int)) = true := by simp; omega
        have s3 : (a1 : Int) < (b1' : Int) := by omega
        have HAB := hide hab
        clear hab
        have HL2 := hide (show L2.length ≤ 5 * k + 1 by have := N2.out; have := HLEN.out; omega)
        obtain ⟨k0, k1, k2, k3, k4, k5⟩ := H2d.out.cells
        obtain ⟨a3, ha3⟩ : ∃ m, m = (if a < a1 then a1 else a) := ⟨_, rfl⟩
        go_upto_region 12 with (go_at_call 89; (with_reducible refine Calls.mono (fill_any HF.out H2d.out.st a1 (by have := HL2.out; have := HK5.out; omega) HM.out) ?_); rintro r w3 ⟨rfl, v3, L3, h3, e3, n3, o3, g3⟩; have H3 := hide (RSt.fill H2d.out h3 o3 g3); have E3 := hide e3; have N3 := hide n3; obtain ⟨A3, d3, rfl, _⟩ := h3.inn.row.form; obtain ⟨k0, k1, k2, k3, k4, k5⟩ := H3.out.cells; have kf := H3.out.st.ba.frozen 0; clear h3 e3 n3 o3 g3)
        have H3d := hide (H3.out.below (Below.refl _ _).drew)
        have HL3 := hide (show L3.length ≤ 5 * k + 2 by have := N3.out; have := HL2.out; omega)
        clear k0 k1 k2 k3 k4 k5 kf H2d
        refine wp_region_d (S := fun x => x.cell? ⟨W.heap.size + 1, 0, none⟩ = some (.slice A3 L3.length d3) ∧ x.cell? ⟨W.heap.size + 1 + 1, 0, none⟩ = some (.int .i64 ((if a < a1 then a1 else a : Nat) : Int)) ∧ x.cell? ⟨W.heap.size, 0, none⟩ = some (.func (.func fid) #[] caps) ∧ x.cell? ⟨wr.heap.size, 0, none⟩ = some (.int .i64 (pf : Int)) ∧ x.cell? ⟨wr.heap.size, 1, none⟩ = some (.int .i64 (pt : Int)) ∧ x.cell? ⟨wr.heap.size, 2, none⟩ = some (.slice Ap q.length cp)) (D := [9]) (by kernel_rfl) ?_
        change wpAnyD _ _ _ _ _ _ _ _ _ w3.drew
        clear H3
        generalize w3.drew = w4 at H3d ⊢
        have hS := H3d.out.cells
        refine wpAnyD_take (i := 0) (oi := { dst := some 55, op := Op.load 67 (Operand.tmp 9), type := 67, pos := "props.go:73", after := #[], guard := none }) (v := ?_) rfl (by kernel_rfl) (by kernel_rfl) (by kernel_rfl) (by kernel_rfl) (by kernel_rfl) (fun _ _ _ h => h) (Or.inl ⟨by rfl, ?_⟩) hS ?_
        rotate_left
        · intro w hSw
          obtain ⟨s0, s1, s2, s3, s4, s5⟩ := hSw
          go_simp
          all_goals with_reducible rfl
        simp only [Act.put, List.setIfInBounds_toArray, List.set_cons_zero, List.set_cons_succ]
        refine wpAnyD_takeW (i := 1) (oi := { dst := some 56, op := Op.move (Operand.tmp 15), type := 3, pos := "props.go:73", after := #[], guard := none }) (v := ?_) rfl (by kernel_rfl) (by kernel_rfl) (by kernel_rfl) (fun _ _ _ h => h) (Or.inl ⟨by rfl, ?_⟩) ?_
        rotate_left
        · intro w hSw
          clear hSw
          go_simp
          all_goals with_reducible rfl
        simp only [Act.put, List.setIfInBounds_toArray, List.set_cons_zero, List.set_cons_succ]
        refine wpAnyD_takeW (i := 2) (oi := { dst := some 57, op := Op.move (Operand.tmp 16), type := 3, pos := "props.go:73", after := #[], guard := none }) (v := ?_) rfl (by kernel_rfl) (by kernel_rfl) (by kernel_rfl) (fun _ _ _ h => h) (Or.inl ⟨by rfl, ?_⟩) ?_
        rotate_left
        · intro w hSw
          clear hSw
          go_simp
          all_goals with_reducible rfl
        simp only [Act.put, List.setIfInBounds_toArray, List.set_cons_zero, List.set_cons_succ]
        refine wpAnyD_take (i := 3) (oi := { dst := some 58, op := Op.load 75 (Operand.tmp 7), type := 75, pos := "props.go:73", after := #[], guard := none }) (v := ?_) rfl (by kernel_rfl) (by kernel_rfl) (by kernel_rfl) (by kernel_rfl) (by kernel_rfl) (fun _ _ _ h => h) (Or.inl ⟨by rfl, ?_⟩) hS ?_
        rotate_left
        · intro w hSw
          obtain ⟨s0, s1, s2, s3, s4, s5⟩ := hSw
          go_simp
          all_goals with_reducible rfl
        simp only [Act.put, List.setIfInBounds_toArray, List.set_cons_zero, List.set_cons_succ]
        refine wpAnyD_takeW (i := 4) (oi := { dst := some 59, op := Op.fieldAddr 73 (Operand.tmp 13) 0, type := 0, pos := "props.go:73", after := #[], guard := none }) (v := ?_) rfl (by kernel_rfl) (by kernel_rfl) (by kernel_rfl) (fun _ _ _ h => h) (Or.inl ⟨by rfl, ?_⟩) ?_
        rotate_left
        · intro w hSw
          clear hSw
          go_simp
          all_goals with_reducible rfl
        simp only [Act.put, List.setIfInBounds_toArray, List.set_cons_zero, List.set_cons_succ]
        refine wpAnyD_takeW (i := 5) (oi := { dst := some 60, op := Op.fieldAddr 38 (Operand.tmp 59) 2, type := 0, pos := "props.go:73", after := #[{ on := 4, ground := Ground.data }], guard := none }) (v := ?_) rfl (by kernel_rfl) (by kernel_rfl) (by kernel_rfl) (fun _ _ _ h => h) (Or.inl ⟨by rfl, ?_⟩) ?_
        rotate_left
        · intro w hSw
          clear hSw
          go_simp
          all_goals with_reducible rfl
        simp only [Act.put, List.setIfInBounds_toArray, List.set_cons_zero, List.set_cons_succ]
        refine wpAnyD_take (i := 6) (oi := { dst := some 61, op := Op.load 32 (Operand.tmp 60), type := 32, pos := "props.go:73", after := #[{ on := 5, ground := Ground.data }], guard := none }) (v := ?_) rfl (by kernel_rfl) (by kernel_rfl) (by kernel_rfl) (by kernel_rfl) (by kernel_rfl) (fun _ _ _ h => h) (Or.inl ⟨by rfl, ?_⟩) hS ?_
        rotate_left
        · intro w hSw
          obtain ⟨s0, s1, s2, s3, s4, s5⟩ := hSw
          go_simp
          all_goals with_reducible rfl
        simp only [Act.put, List.setIfInBounds_toArray, List.set_cons_zero, List.set_cons_succ]
        clear hS
        refine wpAnyD_one (i := 7) (o := { dst := some 62, op := Op.call { callee := Callee.value (Operand.tmp 58), args := #[Operand.tmp 61], argTypes := #[32] }, type := 32, pos := "props.go:73", after := #[{ on := 3, ground := Ground.data }, { on := 6, ground := Ground.data }], guard := none }) (by kernel_rfl) rfl (fun K hK => ?_)
        go_simp
        (with_reducible refine Calls.mono (HF.out.call _ _ q H3d.out.st.bel H3d.out.pr HQ.out) ?_)
        rintro r w6 ⟨v6, rfl, h6, b6⟩
        have H4 := hide (H3d.out.below b6)
        have HP6 := hide h6
        clear h6 b6
        refine hK _ _ (fun _ _ => H4.out.cells) ?_
        clear hK K
        try simp only [Act.put, List.setIfInBounds_toArray, List.set_cons_zero, List.set_cons_succ]
        refine wpAnyD_one (i := 8) (o := { dst := some 63, op := Op.call { callee := Callee.value (Operand.func 56), args := #[Operand.tmp 55, Operand.tmp 56, Operand.tmp 57, Operand.tmp 62], argTypes := #[67, 3, 3, 32] }, type := 67, pos := "props.go:73", after := #[{ on := 0, ground := Ground.data }, { on := 1, ground := Ground.data }, { on := 2, ground := Ground.data }, { on := 7, ground := Ground.data }, { on := 7, ground := Ground.chain }], guard := none }) (by kernel_rfl) rfl (fun K hK => ?_)
        go_simp
        (with_reducible refine Calls.mono (add_any H4.out.st.inn HP6.out (a1 : Int) (b1' : Int) (by have := HL3.out; have := HK5.out; omega) HFM.out (H4.out.st.fits HM.out) (fun _ => by omega)) ?_)
        rintro r w7 ⟨v5, L5, rfl, p5, e5, o5, g5⟩
        rw [Int.toNat_natCast, Int.toNat_natCast] at e5
        have H5 := hide (RSt.put H4.out p5 e5 o5 g5 (HF.out.len q HQ.out))
        have E5 := hide e5
        have N5 := hide (len_step e5)
        obtain ⟨x0, x1, x2, x3, x4, x5, x6⟩ := RSt.near H4.out o5
        obtain ⟨A5, d5, rfl, _⟩ := p5.row.form
        clear p5 e5 o5 g5
        refine hK _ _ (fun _ _ => ⟨x0, x1, x2, x3, x4, x5⟩) ?_
        clear hK K
        try simp only [Act.put, List.setIfInBounds_toArray, List.set_cons_zero, List.set_cons_succ]
        refine wpAnyD_one (i := 9) (o := { dst := none, op := Op.store 67 (Operand.tmp 9) (Operand.tmp 63), type := 0, pos := "props.go:73", after := #[{ on := 8, ground := Ground.data }, { on := 8, ground := Ground.chain }, { on := 0, ground := Ground.phase }, { on := 1, ground := Ground.phase }, { on := 2, ground := Ground.phase }, { on := 3, ground := Ground.phase }, { on := 4, ground := Ground.phase }, { on := 5, ground := Ground.phase }, { on := 6, ground := Ground.phase }, { on := 7, ground := Ground.phase }, { on := 8, ground := Ground.phase }], guard := none }) (by kernel_rfl) rfl (fun K hK => ?_)
        go_simp
        refine hK _ _ (fun h => by cases h) ?_
        clear hK K
        try simp only [Act.put, List.setIfInBounds_toArray, List.set_cons_zero, List.set_cons_succ]
        refine wpAnyD_done (by kernel_rfl) ?_ _
        have HL5 := hide (show L5.length ≤ 5 * k + 3 by have := N5.out; have := HL3.out; omega)
        have H5a := hide (H5.out.at_ b1')
        have j1 := H5.out.st.ba.cell 0
        have j2 := H5.out.st.ba.frozen 0
        clear x0 x1 x2 x3 x4 x5 x6
        skip
        obtain ⟨k0, k1, k2, k3, k4, k5⟩ := H5a.out.cells
        have kf := H5a.out.st.ba.frozen 0
        by_cases ht : en < pt
        · have t1 : decide (en < pt) = true := by simpa using ht
          have t2 : decide ((en : Int) < (pt : Int)) = true := by simp; omega
          have t3 : (en : Int) < (pt : Int) := by omega
          have HT := hide ht
          clear ht
          obtain ⟨c9, hc9⟩ : ∃ m, m = max pf en := ⟨_, rfl⟩
          have q4 : ∀ (w : World), (Builtin.max_ #[3, 3] 3 #[.int .i64 (pf : Int), .int .i64 (en : Int)]).run Try.prog w = .ok (.int .i64 (c9 : Int)) w := fun w => by rw [run_max_int2, hc9]; congr 3; split <;> omega
          have HC9 := hide hc9
          clear hc9
          go_wp2_with (first | (go_at_call 89; (with_reducible refine Calls.mono (fill_any HF.out H5a.out.st en (by have := HL5.out; have := HK5.out; omega) HM.out) ?_); rintro r w6 ⟨rfl, v6, L6, h6, e6, n6, o6, g6⟩; have H6 := hide (RSt.fill H5a.out h6 o6 g6); have E6 := hide e6; have N6 := hide n6; obtain ⟨A6, d6, rfl, _⟩ := h6.inn.row.form; obtain ⟨k0, k1, k2, k3, k4, k5⟩ := H6.out.cells; have kf := H6.out.st.ba.frozen 0; clear h6 e6 n6 o6 g6) | (go_at_call 56; (with_reducible refine Calls.mono (add_any H6.out.st.inn H6.out.pr (c9 : Int) (pt : Int) (by have := N6.out; have := HL5.out; have := HK5.out; omega) HQM.out (H6.out.st.fits HM.out) (fun _ => by omega)) ?_); rintro r w7 ⟨v7, L7, rfl, p7, e7, o7, g7⟩; rw [Int.toNat_natCast, Int.toNat_natCast] at e7; have H7 := hide (RSt.put H6.out p7 e7 o7 g7 (Nat.le_trans HQ.out HNM.out)); have E7 := hide e7; have N7 := hide (len_step e7); obtain ⟨x0, x1, x2, x3, x4, x5, x6⟩ := RSt.near H6.out o7; obtain ⟨A7, d7, rfl, _⟩ := p7.row.form; obtain ⟨k0, k1, k2, k3, k4, k5⟩ := H7.out.cells; have kf := H7.out.st.ba.frozen 0; clear p7 e7 o7 g7))
          go_roundw
          case rel => have e1 := HM1.out; have e2 := HA1.out; have e3 := HB1.out; have e4 := HC9.out; subst e1 e2 e3 e4; exact ⟨k + 1, _, L7, _, HLT.out, by go_num, H7.out.st, fold_tt HFO.out HP.out E2.out HAB.out E3.out E5.out HT.out E6.out E7.out, by have := N6.out; have := N7.out; have := HL5.out; have := HLEN.out; omega⟩
          case measure => have := HLT.out; simp [intOf]; omega
        · have t1 : decide (en < pt) = false := by simpa using ht
          have t2 : decide ((en : Int) < (pt : Int)) = false := by simp; omega
          have t3 : ¬ (en : Int) < (pt : Int) := by omega
          have HT := hide ht
          clear ht
          go_wp2
          go_roundw
          case rel => have e1 := HM1.out; have e2 := HA1.out; have e3 := HB1.out; subst e1 e2 e3; exact ⟨k + 1, _, L5, _, HLT.out, by go_num, H5a.out.st, fold_tf HFO.out HP.out E2.out HAB.out E3.out E5.out HT.out, by have := HL5.out; have := HLEN.out; omega⟩
          case measure => have := HLT.out; simp [intOf]; omega
      · have s1 : decide (a1 < b1') = false := by simpa using hab
        have s2 : decide ((a1 : Int) < (b1' : Int)) = false := by simp; omega
        have s3 : ¬ (a1 : Int) < (b1' : Int) := by omega
        have HAB := hide hab
        clear hab
        have HL2 := hide (show L2.length ≤ 5 * k + 1 by have := N2.out; have := HLEN.out; omega)
        obtain ⟨k0, k1, k2, k3, k4, k5⟩ := H2d.out.cells
        have kf := H2d.out.st.ba.frozen 0
        by_cases ht : en < pt
        · have t1 : decide (en < pt) = true := by simpa using ht
          have t2 : decide ((en : Int) < (pt : Int)) = true := by simp; omega
          have t3 : (en : Int) < (pt : Int) := by omega
          have HT := hide ht
          clear ht
          obtain ⟨c9, hc9⟩ : ∃ m, m = max pf en := ⟨_, rfl⟩
          have q4 : ∀ (w : World), (Builtin.max_ #[3, 3] 3 #[.int .i64 (pf : Int), .int .i64 (en : Int)]).run Try.prog w = .ok (.int .i64 (c9 : Int)) w := fun w => by rw [run_max_int2, hc9]; congr 3; split <;> omega
          have HC9 := hide hc9
          clear hc9
          go_wp2_with (first | (go_at_call 89; (with_reducible refine Calls.mono (fill_any HF.out H2d.out.st en (by have := HL2.out; have := HK5.out; omega) HM.out) ?_); rintro r w6 ⟨rfl, v6, L6, h6, e6, n6, o6, g6⟩; have H6 := hide (RSt.fill H2d.out h6 o6 g6); have E6 := hide e6; have N6 := hide n6; obtain ⟨A6, d6, rfl, _⟩ := h6.inn.row.form; obtain ⟨k0, k1, k2, k3, k4, k5⟩ := H6.out.cells; have kf := H6.out.st.ba.frozen 0; clear h6 e6 n6 o6 g6) | (go_at_call 56; (with_reducible refine Calls.mono (add_any H6.out.st.inn H6.out.pr (c9 : Int) (pt : Int) (by have := N6.out; have := HL2.out; have := HK5.out; omega) HQM.out (H6.out.st.fits HM.out) (fun _ => by omega)) ?_); rintro r w7 ⟨v7, L7, rfl, p7, e7, o7, g7⟩; rw [Int.toNat_natCast, Int.toNat_natCast] at e7; have H7 := hide (RSt.put H6.out p7 e7 o7 g7 (Nat.le_trans HQ.out HNM.out)); have E7 := hide e7; have N7 := hide (len_step e7); obtain ⟨x0, x1, x2, x3, x4, x5, x6⟩ := RSt.near H6.out o7; obtain ⟨A7, d7, rfl, _⟩ := p7.row.form; obtain ⟨k0, k1, k2, k3, k4, k5⟩ := H7.out.cells; have kf := H7.out.st.ba.frozen 0; clear p7 e7 o7 g7))
          go_roundw
          case rel => have e1 := HM1.out; have e2 := HA1.out; have e3 := HB1.out; have e4 := HC9.out; subst e1 e2 e3 e4; exact ⟨k + 1, _, L7, _, HLT.out, by go_num, H7.out.st, fold_ft HFO.out HP.out E2.out HAB.out HT.out E6.out E7.out, by have := N6.out; have := N7.out; have := HL2.out; have := HLEN.out; omega⟩
          case measure => have := HLT.out; simp [intOf]; omega
        · have t1 : decide (en < pt) = false := by simpa using ht
          have t2 : decide ((en : Int) < (pt : Int)) = false := by simp; omega
          have t3 : ¬ (en : Int) < (pt : Int) := by omega
          have HT := hide ht
          clear ht
          go_wp2
          go_roundw
          case rel => have e1 := HM1.out; have e2 := HA1.out; have e3 := HB1.out; subst e1 e2 e3; exact ⟨k + 1, _, L2, _, HLT.out, by go_num, H2d.out.st, fold_ff HFO.out HP.out E2.out HAB.out HT.out, by have := HL2.out; have := HLEN.out; omega⟩
          case measure => have := HLT.out; simp [intOf]; omega
    · obtain rfl : k = n := by omega
      have y2 : decide ((k : Int) < (k : Int)) = false := by simp
      have y1 : decide (k < k) = false := by simp
      obtain ⟨Av, cv, rfl, _⟩ := hst.inn.row.form
      obtain ⟨k0, k1, k2⟩ := hst.cells
      have HST := hide hst
      have HLEN := hide hlen
      have HLK := hide (show 5 * k ≤ 500000 by omega)
      clear hst hfo hlen hk hlt
      go_wp2_with (go_at_call 89; (with_reducible refine Calls.mono (fill_any HF.out HST.out en (by have := HLEN.out; have := HLK.out; omega) HM.out) ?_); rintro r w3 ⟨rfl, v3, L3, h3, e3, n3, o3, g3⟩; obtain ⟨A3, d3, rfl, _⟩ := h3.inn.row.form; have j0 := h3.cells.1; have H3 := hide h3; have E3 := hide e3; have N3 := hide n3; clear h3 e3 n3 o3 g3)
      go_ret
      refine ⟨_, L3, rfl, H3.out.inn, ?_, H3.out.bel, fun g hg => (by have := H3.out.own g hg; omega), by have := N3.out; have := HLEN.out; have := HLK.out; omega⟩
      rw [E3.out]
      have e := HFO.out
      unfold FoldAt at e
      rw [List.take_of_length_le (by rw [pcs_len, ← HNN.out]; exact Nat.le_refl _)] at e
      unfold changedP
      rw [← e]
end
end Go.Proofs.Ytgiogmbopiblmaa
