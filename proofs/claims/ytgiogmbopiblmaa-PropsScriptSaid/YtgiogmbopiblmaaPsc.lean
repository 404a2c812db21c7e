/- The reference's copied, Copy, put. No condition but those written. -/
import Derived.Test.YtgiogmbopiblmaaPsb
namespace Go.Proofs.Ytgiogmbopiblmaa
open Go.RowKit

/-- Lists handed back. -/
def LxRes (w : World) (L : List (List Pr)) (e : Ending) (w' : World) : Prop := ∃ v R, e = .returned v ∧ LxAt w' v R ∧ lsts R = L ∧ (∀ g, v.ownBlock = some g → w.heap.size ≤ g) ∧ Below w.heap.size w w'
theorem lsts_get {R : List (List Pr × Value)} {i : Nat} {x : List Pr × Value} (h : R[i]? = some x) : (lsts R)[i]? = some x.1 := by
  unfold lsts
  rw [List.getElem?_map, h]
  rfl
theorem lsts_app (R S : List (List Pr × Value)) : lsts (R ++ S) = lsts R ++ lsts S := by simp [lsts]
theorem PrS.apartT {w w' : World} {v sv : Value} {q : List Pr} {T : TypeId} {k n : Nat} {xs : List Value} (h : PrS w v q) (hs : Sl w T k sv n xs) (hT : T ≠ 36) (ho : Only (fun g => sv.ownBlock = some g) w w') : PrS w' v q :=
  Sl.only h ho (Sl.apart h hs (fun e => hT e.symm))
/-- A list put behind lists. -/
theorem LxAt.more {w w1 w2 : World} {v v2 v1 : Value} {R : List (List Pr × Value)} {q : List Pr} (h : LxAt w v R) (hb : Below w.heap.size w w1) (hq : PrS w1 v1 q) (o : Go.Obj) (hs : Sl w2 32 1 v2 (R.length + 1) (rows lxC R ++ [v1])) (ho : Only (fun g => v.ownBlock = some g) (w1.alloc o) w2) : LxAt w2 v2 (R ++ [(q, v1)]) := by
  have h1 := h.below hb
  have h2 := h1.below ((Below.refl w1.heap.size w1).alloc (Nat.le_refl _) o)
  refine ⟨?_, fun x hx => ?_⟩
  · rw [List.length_append, rows_append, rows_one]
    exact hs
  · rcases List.mem_append.1 hx with hx | hx
    · exact (h2.inn x hx).apartT h2.row (by decide) ho
    · obtain rfl : x = (q, v1) := by simpa using hx
      exact PrS.apartT (Sl.alloc hq o) h2.row (by decide) ho
set_option maxRecDepth 100000 in
set_option maxHeartbeats 8000000 in
theorem rcopied_any {w : World} (v : Value) (R : List (List Pr × Value)) (h : LxAt w v R) (hl : R.length ≤ 65536) (hf : ∀ x ∈ R, x.1.length ≤ 1000) : Calls Try.prog 92 #[v] w (LxRes w (lsts R)) := by
  obtain ⟨A, c, rfl, _⟩ := h.row.form
  obtain ⟨n, hn⟩ : ∃ n, n = R.length := ⟨_, rfl⟩
  have hn2 : (n : Int) ≤ 65536 := by omega
  have H := hide h
  rw [← hn] at H ⊢
  have HN := hide hn
  have HF := hide hf
  obtain ⟨i0, hi, hz0, hz1, hz2⟩ := info_parts info_pr
  obtain ⟨j0, hj, hy0, hy1, hy2⟩ := info_parts info_lx
  have HI := hide hi
  have HZ := hide hz0
  have HZ1 := hide hz1
  have HZ2 := hide hz2
  have HJ := hide hj
  have HY := hide hy0
  have HY1 := hide hy1
  have HY2 := hide hy2
  clear h hn hl hf hi hz0 hz1 hz2 hj hy0 hy1 hy2
  go_enter Try.func92, Try.ntmps92
  go_wp2
  go_loopw [3, 4] (fun ov iv wr => ∃ (k : Nat) (Q : List (List Pr × Value)), iv = .int .i64 (k : Int) ∧ k ≤ n ∧ LxAt wr ov Q ∧ lsts Q = (lsts R).take k ∧ (∀ g, ov.ownBlock = some g → w.heap.size ≤ g) ∧ Below w.heap.size w wr) (fun _ iv _ => n - (intOf iv).toNat)
  case atStart => exact ⟨0, [], rfl, Nat.zero_le _, LxAt.nil _, by simp [lsts], (by intro g hg; cases hg), Below.refl _ _⟩
  case round =>
    obtain ⟨k, Q, rfl, hk, hq, hqe, hg, hb⟩ := hrel
    have HQ := hide hq
    have HG := hide hg
    have HB := hide hb
    have HQE := hide hqe
    obtain ⟨Ao, co, rfl, _⟩ := hq.row.form
    have hql : Q.length = k := by
      have := congrArg List.length hqe
      rw [lsts_len, List.length_take, lsts_len, ← HN.out] at this
      omega
    rw [hql] at HQ HG ⊢
    by_cases hlt : k < n
    · have z0 : decide (k < n) = true := by simpa using hlt
      have z1 : decide ((k : Int) < (n : Int)) = true := by simp; omega
      have z2 : (k : Int) < (n : Int) := by omega
      obtain ⟨⟨q, qv⟩, hx⟩ : ∃ y, R[k]? = some y := ⟨_, List.getElem?_eq_getElem (by rw [← HN.out]; exact hlt)⟩
      have hR := H.out
      obtain ⟨g, off, rfl, d0⟩ := hR.at_ hx
      have hqs := (hR.inn _ (List.mem_of_getElem? hx)).below hb
      obtain ⟨Aq, cq, hqv, _⟩ := Sl.form hqs
      have hqv2 : qv = .slice Aq q.length cq := hqv
      subst hqv2
      have hql2 : q.length ≤ 1000 := HF.out _ (List.mem_of_getElem? hx)
      have hbE : Below wr.heap.size wr (wr.alloc (.cells #[] 36)) := (Below.refl _ _).alloc (Nat.le_refl _) _
      have d1 := cell_keep (cell_keep d0 hb) hbE
      have he2 : Sl (wr.alloc (.cells #[] 36)) 36 3 (.slice (some ⟨wr.heap.size, 0, none⟩) 0 0) 0 [] := by simpa using Sl.new wr 36 3 #[] 0 0 (Nat.le_refl _) (by simp [maxLen]) (by simp)
      have hr : Rd (wr.alloc (.cells #[] 36)) (.slice Aq q.length cq) 3 q.length (rows prC q) := (Sl.rd hqs).only (Only.of_below hbE) fun _ _ f => f
      have HX := hide hx
      have HLT := hide hlt
      have HBE := hide hbE
      clear hq hqe hg hb hlt hx hR hqs hqv hk d0 hbE
      go_wp2_with (at_builtin; refine wpList_append_sl rfl (.tmp 12) (.tmp 16) 32 rfl 36 i0 (.agg #[.int .i64 0, .int .i64 0, .int .i64 0]) 3 24 Try.underlying32 HI.out HZ.out HZ1.out HZ2.out rfl _ 0 [] rfl he2 _ rfl q.length (rows prC q) hr (rows_cells fun z _ => prC_one z) ?b1 ?b2 ?_)
      case b1 => unfold maxLen; omega
      case b2 => omega
      intro v1 w1 hsl ho1 hv1
      have HB1 := hide (HBE.out.trans (ho1.below (by simp) fun i hi => by cases hi; exact Nat.le_refl _))
      have HS1 := hide (show PrS w1 v1 q by unfold PrS; simpa using hsl)
      obtain ⟨A1, c1, rfl, _⟩ := Sl.form HS1.out
      clear hsl ho1 hv1 he2 hr d1
      have HO := hide (Sl.alloc (HQ.out.below HB1.out).row (.cells (lxC (q, .slice A1 q.length c1)).toArray 32))
      rw [hql] at HO
      have HLQ := hide hql
      go_wp2_with (at_builtin; refine wpList_append_sl rfl (.tmp 11) (.tmp 18) 82 rfl 32 j0 (.slice none 0 0) 1 24 Try.underlying82 HJ.out HY.out HY1.out HY2.out rfl (.slice Ao k co) k (rows lxC Q) rfl HO.out _ rfl 1 _ (rd_elem w1 32 1 (lxC (q, .slice A1 q.length c1)) rfl) (fun u hu => by simp [lxC] at hu; rw [hu]; rfl) ?b1 ?b2 ?_)
      case b1 => unfold maxLen; omega
      case b2 => omega
      intro v2 w2 hs2 ho2 hv2
      have HL2 := hide (show LxAt w2 v2 (Q ++ [(q, .slice A1 q.length c1)]) from HQ.out.more HB1.out HS1.out _ (by rw [HLQ.out]; exact hs2) ho2)
      have HF2 := hide (fresh_put (HB.out.trans (HB1.out.mono HB.out.size)) HG.out _ ho2 (by rw [World.size_alloc]; exact hv2))
      have HE2 := hide (show lsts (Q ++ [(q, .slice A1 q.length c1)]) = (lsts R).take (k + 1) by
        rw [lsts_app, HQE.out, List.take_add_one, lsts_get HX.out]
        rfl)
      obtain ⟨A2, c2, rfl, _⟩ := hs2.form
      clear hs2 ho2 hv2
      go_wp2
      go_roundw
      case rel => exact ⟨k + 1, _, by go_num, HLT.out, HL2.out, HE2.out, HF2.out.2, HF2.out.1⟩
      case measure => have := HLT.out; simp [intOf]; omega
    · have z0 : decide (k < n) = false := by simpa using hlt
      have z1 : decide ((k : Int) < (n : Int)) = false := by simp; omega
      have z2 : ¬ (k : Int) < (n : Int) := by omega
      have HE := hide (show lsts Q = lsts R by rw [HQE.out]; exact List.take_of_length_le (by rw [lsts_len, ← HN.out]; omega))
      clear hq hqe hg hb hlt hk hql
      go_wp2
      go_ret
      exact ⟨_, Q, rfl, HQ.out, HE.out, HG.out, HB.out⟩
set_option maxRecDepth 100000 in
set_option maxHeartbeats 4000000 in
/-- A new object with given lists. -/
theorem rcopy_any {w : World} {rb : Nat} {v : Value} {R : List (List Pr × Value)} (h : RfAt w rb v R) : Calls Try.prog 79 #[.pointer (some ⟨rb, 0, none⟩)] w fun e w' => ∃ rb' v' R', e = .returned (.pointer (some ⟨rb', 0, none⟩)) ∧ RfAt w' rb' v' R' ∧ lsts R' = lsts R ∧ w.heap.size ≤ rb' ∧ (∀ g, v'.ownBlock = some g → w.heap.size ≤ g) ∧ Below w.heap.size w w' := by
  have c0 : w.cell? ⟨rb, 0, none⟩ = some v := h.box.cell 0
  have HC := hide (rcopied_any v R h.inn h.len h.fit)
  have HL := hide h.len
  have HF := hide h.fit
  obtain ⟨A, c, rfl, _⟩ := h.inn.row.form
  clear h
  go_enter Try.func79, Try.ntmps79
  go_wp2_with fail
  refine (Calls.mono HC.out) ?_
  rintro r w1 ⟨v1, R1, rfl, h1, e1, g1, b1⟩
  have HX := hide h1
  have HE := hide e1
  have HG := hide g1
  have HB := hide b1
  obtain ⟨A1, c1, rfl, _⟩ := h1.row.form
  clear h1 e1 g1 b1
  go_wp2
  go_ret
  have hb := below_box w1 (.cells #[.slice A1 R1.length c1] 84)
  refine ⟨w1.heap.size, _, R1, rfl, ⟨Blk.new w1 _ _, HX.out.below hb, ?_, ?_⟩, HE.out, HB.out.size, HG.out, HB.out.trans (hb.mono HB.out.size)⟩
  · have := congrArg List.length HE.out
    rw [lsts_len, lsts_len] at this
    have := HL.out
    omega
  · intro x hx
    have : x.1 ∈ lsts R := by rw [← HE.out]; exact List.mem_map_of_mem hx
    obtain ⟨y, hy, e⟩ := List.mem_map.1 this
    rw [← e]
    exact HF.out y hy
/-- A reference of the law's own. -/
structure ROb (W w : World) (rb : Nat) (L : List (List Pr)) : Prop where
  ex : ∃ v R, RfAt w rb v R ∧ lsts R = L ∧ ∀ g, v.ownBlock = some g → W.heap.size ≤ g
  ge : W.heap.size ≤ rb
  bel : Below W.heap.size W w
section
variable {W w w' : World} {rb : Nat} {L L' : List (List Pr)}
theorem ROb.below (h : ROb W w rb L) (hb : Below w.heap.size w w') : ROb W w' rb L := by
  obtain ⟨⟨v, R, h1, h2, h3⟩, h4, h5⟩ := h
  exact ⟨⟨v, R, h1.below hb, h2, h3⟩, h4, h5.trans (hb.mono h5.size)⟩
theorem ROb.len (h : ROb W w rb L) : L.length ≤ 65536 := by
  obtain ⟨⟨v, R, h1, rfl, _⟩, _⟩ := h
  rw [lsts_len]
  exact h1.len
theorem ROb.fit (h : ROb W w rb L) : ∀ q ∈ L, q.length ≤ 1000 := by
  obtain ⟨⟨v, R, h1, rfl, _⟩, _⟩ := h
  intro q hq
  obtain ⟨x, hx, rfl⟩ := List.mem_map.1 hq
  exact h1.fit x hx
/-- The object's box holds other lists. -/
theorem ROb.store {w1 w2 : World} {v' : Value} {R' : List (List Pr × Value)} (h : ROb W w rb L) (hb : Below W.heap.size W w1) (hbox : ∃ u, Blk w1 rb 84 #[u]) (hl : LxAt w1 v' R') (hn : R'.length ≤ 65536) (hf : ∀ x ∈ R', x.1.length ≤ 1000) (hv : ∀ g, v'.ownBlock = some g → W.heap.size ≤ g) (e : w2 = w1.setCell ⟨rb, 0, none⟩ v') : ROb W w2 rb (lsts R') := by
  subst e
  obtain ⟨u, hu⟩ := hbox
  have hst : Only (· = rb) w1 (w1.setCell ⟨rb, 0, none⟩ v') := (Only.refl (· = rb) w1).setCell (p := ⟨rb, 0, none⟩) (.inl rfl) _
  refine ⟨⟨v', R', ⟨hu.set_ 0 v', ⟨hl.row.only hst fun g hg e => ?_, fun x hx => Sl.only (hl.inn x hx) hst fun g hg e => ?_⟩, hn, hf⟩, rfl, hv⟩, h.ge, hb.trans (hst.below hb.size fun i e => by rw [e]; exact h.ge)⟩
  · subst e
    exact Sl.ne_blk hl.row hu (by decide) hg
  · subst e
    exact Sl.ne_blk (hl.inn x hx) hu (by decide) hg
end
/-- How many lists the object's box names. -/
def lenAt (w : World) (rb : Nat) : Nat := match w.cell? ⟨rb, 0, none⟩ with
  | some (.slice _ n _) => n
  | _ => 0
theorem ROb.lenAt {W w : World} {rb : Nat} {L : List (List Pr)} (h : ROb W w rb L) : Go.Proofs.Ytgiogmbopiblmaa.lenAt w rb = L.length := by
  obtain ⟨⟨v, R, h1, rfl, _⟩, _⟩ := h
  obtain ⟨A, c, rfl, _⟩ := h1.inn.row.form
  unfold Go.Proofs.Ytgiogmbopiblmaa.lenAt
  rw [show w.cell? ⟨rb, 0, none⟩ = some (.slice A R.length c) from h1.box.cell 0, lsts_len]
end Go.Proofs.Ytgiogmbopiblmaa
