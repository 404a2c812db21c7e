/- The reference's put. No condition but those written. -/
import Derived.Test.YtgiogmbopiblmaaPsc
import Derived.Deep.RegionHeld3
namespace Go.Proofs.Ytgiogmbopiblmaa
open Go.RowKit

/-- The types of the reference's own blocks. -/
def isRef (T : TypeId) : Prop := T = 84 ∨ T = 32
theorem keep_store {w : World} {rb : Nat} {u v : Value} (h : Blk w rb 84 #[u]) : KeepT isRef w (w.setCell ⟨rb, 0, none⟩ v) := by
  have hst : Only (· = rb) w (w.setCell ⟨rb, 0, none⟩ v) := (Only.refl (· = rb) w).setCell (p := ⟨rb, 0, none⟩) (.inl rfl) _
  refine ⟨hst.os, hst.tape, hst.output, hst.size, fun g cs T fr e hT => hst.block g (lt_of_heap e) fun eg => ?_⟩
  subst eg
  unfold Blk at h
  rw [h] at e
  cases e
  exact hT (.inl rfl)
theorem keep_own {w w' : World} {v : Value} {n : Nat} {xs : List Value} (h : Sl w 32 1 v n xs) (ho : Only (fun g => v.ownBlock = some g) w w') : KeepT isRef w w' := by
  refine ⟨ho.os, ho.tape, ho.output, ho.size, fun g cs T fr e hT => ho.block g (lt_of_heap e) fun eg => ?_⟩
  rcases h.2 with ⟨e1, _⟩ | ⟨g1, o1, c1, cs1, e1, hh, _⟩
  · subst e1
    cases eg
  · subst e1
    cases eg
    rw [hh] at e
    cases e
    exact hT (.inr rfl)
theorem keep_row {w : World} {g off n c j : Nat} {xs : List Value} {v : Value} (h : Sl w 32 1 (.slice (some ⟨g, off, none⟩) n c) n xs) : KeepT isRef w (w.setCell ⟨g, off + j, none⟩ v) :=
  keep_own h ((Only.refl (fun i => (Value.slice (some ⟨g, off, none⟩) n c).ownBlock = some i) w).setCell (p := ⟨g, off + j, none⟩) (.inl rfl) _)
/-- What put makes of lists. -/
structure PutRel (L : List (List Pr)) (a d : Nat) (x : Pr) (L' : List (List Pr)) : Prop where
  len : L'.length = max L.length (d - 1)
  val : ∀ i, (L'[i]?).getD [] = if a ≤ i + 1 ∧ i + 1 < d then withP ((L[i]?).getD []) x else (L[i]?).getD []
theorem set_row1 (R : List (List Pr × Value)) (j : Nat) (y : List Pr × Value) : (rows lxC R).set j y.2 = rows lxC (R.set j y) := by
  have e : ∀ L : List (List Pr × Value), rows lxC L = L.map (·.2) := fun L => by
    unfold rows lxC
    induction L with
    | nil => rfl
    | cons a L ih => rw [List.flatMap_cons, ih]; rfl
  rw [e, e, List.map_set]
section
variable {W w w' : World} {rb : Nat} {L : List (List Pr)}
/-- A list laid anew. -/
theorem LxAt.set_ {g off c n : Nat} {R : List (List Pr × Value)} (h : LxAt w (.slice (some ⟨g, off, none⟩) n c) R) (hn : n = R.length) {j : Nat} (hj : j < n) (q : List Pr) (v : Value) (hq : PrS w v q) : LxAt (w.setCell ⟨g, off + j, none⟩ v) (.slice (some ⟨g, off, none⟩) n c) (R.set j (q, v)) := by
  subst hn
  have hst : Only (fun i => (Value.slice (some ⟨g, off, none⟩) R.length c).ownBlock = some i) w (w.setCell ⟨g, off + j, none⟩ v) := (Only.refl (fun i => (Value.slice (some ⟨g, off, none⟩) R.length c).ownBlock = some i) w).setCell (p := ⟨g, off + j, none⟩) (.inl rfl) _
  have hs := h.row.set j (by rw [rows_len lxC_len]; omega) v
  rw [set_row1 R j (q, v)] at hs
  refine ⟨by rw [List.length_set]; exact hs, fun x hx => ?_⟩
  rcases List.mem_or_eq_of_mem_set hx with hx | rfl
  · exact (h.inn x hx).apartT h.row (by decide) hst
  · exact hq.apartT h.row (by decide) hst
theorem row_facts {g off c n m : Nat} {R : List (List Pr × Value)} {y : List Pr × Value} (h : RfAt w rb (.slice (some ⟨g, off, none⟩) n c) R) (hn : n = R.length) (hm : m < n) (hx : R[m]? = some y) (u : Value) :
    w.cell? ⟨g, off + m, none⟩ = some y.2 ∧ w.frozen? ⟨g, off + m, none⟩ = false ∧ Hid ((w.setCell ⟨g, off + m, none⟩ u).cell? ⟨rb, 0, none⟩ = some (.slice (some ⟨g, off, none⟩) n c)) := by
  have hrow := h.inn.row
  rw [← hn] at hrow
  obtain ⟨g', off', e, d0⟩ := h.inn.at_ hx
  cases e
  obtain ⟨g1, o1, c1, e, _, _, _, hf, _⟩ := hrow.at_ (by omega)
  cases e
  have hne : rb ≠ g := fun e => Sl.ne_blk hrow h.box (by decide) (by rw [e]; rfl)
  exact ⟨d0, hf _, hide ((h.box.far (p := ⟨g, off + m, none⟩) hne u).cell 0)⟩
theorem ROb.set_ {g off c n m : Nat} {R : List (List Pr × Value)} {q : List Pr} {v : Value} (h : RfAt w rb (.slice (some ⟨g, off, none⟩) n c) R) (hn : n = R.length) (hm : m < n) (hq : PrS w v q) (hql : q.length ≤ 1000) (hge : W.heap.size ≤ rb) (hg : ∀ i, (Value.slice (some ⟨g, off, none⟩) n c).ownBlock = some i → W.heap.size ≤ i) (hb : Below W.heap.size W w) : ROb W (w.setCell ⟨g, off + m, none⟩ v) rb ((lsts R).set m q) := by
  have hst : Only (fun i => (Value.slice (some ⟨g, off, none⟩) n c).ownBlock = some i) w (w.setCell ⟨g, off + m, none⟩ v) := (Only.refl (fun i => (Value.slice (some ⟨g, off, none⟩) n c).ownBlock = some i) w).setCell (p := ⟨g, off + m, none⟩) (.inl rfl) _
  have hrow := h.inn.row
  rw [← hn] at hrow
  refine ⟨⟨_, R.set m (q, v), ⟨h.box.only hst fun e => Sl.ne_blk hrow h.box (by decide) e, h.inn.set_ hn hm q v hq, by rw [List.length_set]; exact h.len, fun x hx => ?_⟩, ?_, hg⟩, hge, hb.trans (hst.below hb.size hg)⟩
  · rcases List.mem_or_eq_of_mem_set hx with hx | rfl
    · exact h.fit x hx
    · exact hql
  · unfold lsts
    rw [List.map_set]
set_option maxRecDepth 100000 in
set_option maxHeartbeats 16000000 in
theorem rput_any (h : ROb W w rb L) (a d N : Nat) (x : Pr) (ha : 1 ≤ a) (had : a ≤ d) (hd : d ≤ 65537) (hfit : ∀ q ∈ L, q.length ≤ N) (hN : N + 1 ≤ 1000) :
    Calls Try.prog 80 #[.pointer (some ⟨rb, 0, none⟩), .int .i64 (a : Int), .int .i64 (d : Int), .agg #[.int .i64 x.1, .int .i64 x.2.1, .int .i64 x.2.2]] w fun e w' => e = .returned (.tuple #[]) ∧ ∃ L', ROb W w' rb L' ∧ PutRel L a d x L' ∧ KeepT isRef w w' := by
  obtain ⟨d1, hd1⟩ : ∃ m, d = m + 1 := ⟨d - 1, by omega⟩
  have wd1 : IntKind.i64.wrap ((d : Int) - 1) = (d1 : Int) := by rw [show (d : Int) - 1 = (d1 : Int) by omega]; exact IntWalk.i64_in _ (by omega)
  have hd9 : (d1 : Int) ≤ 65536 := by omega
  have hb0 := below_box w (.cells #[.int .i64 x.1, .int .i64 x.2.1, .int .i64 x.2.2] 36)
  have H0 := hide (h.below hb0)
  have HKP0 := hide (KeepT.of_below (ts := isRef) hb0)
  have HX0 := hide (Blk.new w 36 #[.int .i64 x.1, .int .i64 x.2.1, .int .i64 x.2.2])
  have HLE := hide h.len
  have HWS := hide h.bel.size
  have HD1 := hide hd1
  have HA := hide ha
  have HAD := hide had
  have HFIT := hide hfit
  have hd10 : (d : Int) ≤ 65537 := by omega
  obtain ⟨j0, hj, hy0, hy1, hy2⟩ := info_parts info_lx
  have HJ := hide hj
  have HY := hide hy0
  have HY1 := hide hy1
  have HY2 := hide hy2
  clear h hb0 hd hd1 ha had hfit hj hy0 hy1 hy2
  go_enter Try.func80, Try.ntmps80
  go_wp2
  go_loopw [] (fun wr => ∃ L1 : List (List Pr), ROb W wr rb L1 ∧ L1.length ≤ max L.length d1 ∧ L.length ≤ L1.length ∧ (∀ i : Nat, (L1[i]?).getD [] = (L[i]?).getD []) ∧ Blk wr w.heap.size 36 #[.int .i64 x.1, .int .i64 x.2.1, .int .i64 x.2.2] ∧ KeepT isRef w wr) (fun wr => d1 - lenAt wr rb)
  case atStart => exact ⟨L, H0.out, Nat.le_max_left _ _, Nat.le_refl _, fun _ => rfl, HX0.out, HKP0.out⟩
  case round =>
    obtain ⟨L1, ho, hm, hlen, hval, hbx, hkp⟩ := hrel
    have HKP := hide hkp
    clear hkp
    have HO := hide ho
    have HMX := hide hm
    have HLN := hide hlen
    have HVL := hide hval
    have HBX := hide hbx
    obtain ⟨⟨v, R, hr, hrl, hg⟩, hge, hbel⟩ := id ho
    obtain ⟨A, c, rfl, _⟩ := hr.inn.row.form
    have c0 : wr.cell? ⟨rb, 0, none⟩ = some (.slice A R.length c) := hr.box.cell 0
    obtain ⟨n, hn⟩ : ∃ n, n = R.length := ⟨_, rfl⟩
    have hn9 : (n : Int) ≤ 65536 := by have := hr.len; omega
    have HR := hide hr
    rw [← hn] at c0 HR
    have HN := hide hn
    have HRL := hide hrl
    have HG := hide hg
    have hln : L1.length = n := by rw [← hrl, lsts_len, hn]
    have HLN1 := hide hln
    by_cases hlt : n < d1
    · have z0 : decide (n < d1) = true := by simpa using hlt
      have z1 : decide ((n : Int) < (d1 : Int)) = true := by simp; omega
      have z2 : (n : Int) < (d1 : Int) := by omega
      have HLT := hide hlt
      have HBL := hide hbel
      have HGE := hide hge
      have HS := hide (Sl.alloc HR.out.inn.row (.cells (lxC ([], .slice none 0 0)).toArray 32))
      rw [← hn] at HS
      have hbA := hide ((Below.refl wr.heap.size wr).alloc (Nat.le_refl _) (.cells (lxC ([], .slice none 0 0)).toArray 32))
      clear ho hm hlen hval hbx hr hrl hg hge hbel hn hln hlt
      go_wp2_with (at_builtin; refine wpList_append_sl rfl (.tmp 21) (.tmp 22) 82 rfl 32 j0 (.slice none 0 0) 1 24 Try.underlying82 HJ.out HY.out HY1.out HY2.out rfl (.slice A n c) n (rows lxC R) rfl HS.out _ rfl 1 _ (rd_elem wr 32 1 (lxC ([], .slice none 0 0)) rfl) (fun u hu => by simp [lxC] at hu; rw [hu]; rfl) ?b1 ?b2 ?_)
      case b1 => unfold maxLen; omega
      case b2 => omega
      intro v2 w2 hs2 ho2 hv2
      have HL2 := hide (show LxAt w2 v2 (R ++ [([], .slice none 0 0)]) from HR.out.inn.more (Below.refl _ _) (Sl.nil _ _ _) _ (by rw [← HN.out]; exact hs2) ho2)
      have HF2 := hide (fresh_put HBL.out HG.out _ (by rw [← HN.out]; exact ho2) (by rw [World.size_alloc, ← HN.out]; exact hv2))
      have hbx2 : Blk w2 rb 84 #[.slice A n c] := (HR.out.box.alloc _).only ho2 fun e => Sl.ne_blk (HS.out) (HR.out.box.alloc _) (by decide) e
      have HBX2 := hide hbx2
      have f0 := hbx2.cell 0
      have f1 := hbx2.frozen 0
      have hxb2 := (HBX.out.alloc (.cells (lxC ([], .slice none 0 0)).toArray 32)).only ho2 fun e => Sl.ne_blk (HS.out) (HBX.out.alloc _) (by decide) e
      have hne : w.heap.size ≠ rb := Blk.ne_ hxb2 hbx2 (by decide)
      have HXB := hide (hxb2.far (p := ⟨rb, 0, none⟩) hne v2)
      have HKN := hide ((HKP.out.trans (KeepT.of_below hbA.out)).trans ((keep_own HS.out ho2).trans (keep_store (v := v2) hbx2)))
      have HNEW := hide (show ROb W (w2.setCell ⟨rb, 0, none⟩ v2) rb (L1 ++ [[]]) by
        have := ROb.store HO.out HF2.out.1 ⟨_, HBX2.out⟩ HL2.out (by rw [List.length_append, ← HN.out, List.length_singleton]; have := HLT.out; omega) (fun y hy => by
          rcases List.mem_append.1 hy with hy | hy
          · exact HR.out.fit y hy
          · obtain rfl : y = ([], .slice none 0 0) := by simpa using hy
            exact Nat.zero_le _) HF2.out.2 rfl
        rw [lsts_app, HRL.out] at this
        exact this)
      obtain ⟨A2, c2, rfl, _⟩ := hs2.form
      clear hs2 ho2 hv2 hbx2 hxb2 hne
      go_wp2
      go_roundw
      case rel =>
        refine ⟨L1 ++ [[]], HNEW.out, ?_, ?_, fun i => ?_, HXB.out, HKN.out⟩
        · rw [List.length_append, HLN1.out, List.length_singleton]
          have := HLT.out
          omega
        · rw [List.length_append]
          exact Nat.le_trans HLN.out (Nat.le_add_right _ _)
        · rw [← HVL.out i]
          by_cases hi : i < L1.length
          · rw [List.getElem?_append_left hi]
          · rw [List.getElem?_append_right (by omega), List.getElem?_eq_none (l := L1) (by omega)]
            cases i - L1.length <;> rfl
      case measure =>
        rw [HNEW.out.lenAt, HO.out.lenAt, List.length_append, HLN1.out, List.length_singleton]
        have := HLT.out
        omega
    · have z0 : decide (n < d1) = false := by simpa using hlt
      have z1 : decide ((n : Int) < (d1 : Int)) = false := by simp; omega
      have z2 : ¬ (n : Int) < (d1 : Int) := by omega
      have HLM := hide (show L1.length = max L.length d1 by
        rw [hln]
        rw [hln] at hm hlen
        omega)
      clear ho hm hlen hval hbx hr hrl hg hge hbel hn hln hlt
      go_wp2
      obtain ⟨w1, hw1⟩ : ∃ y : World, y = wr := ⟨_, rfl⟩
      clear hw1 c0 z0 z1 z2
      go_loopw [8] (fun iv wq => ∃ (j : Nat) (L2 : List (List Pr)), iv = .int .i64 (j : Int) ∧ a ≤ j ∧ j ≤ d ∧ ROb W wq rb L2 ∧ L2.length = max L.length d1 ∧ (∀ i : Nat, (L2[i]?).getD [] = if a ≤ i + 1 ∧ i + 1 < j then withP ((L[i]?).getD []) x else (L[i]?).getD []) ∧ Blk wq w.heap.size 36 #[.int .i64 x.1, .int .i64 x.2.1, .int .i64 x.2.2] ∧ KeepT isRef w wq) (fun iv _ => d - (intOf iv).toNat)
      case atStart => exact ⟨a, L1, rfl, Nat.le_refl _, HAD.out, HO.out, HLM.out, fun i => by rw [if_neg (by omega)]; exact HVL.out i, HBX.out, HKP.out⟩
      case round =>
        clear HO HMX HLN HVL HBX HR HN HRL HG HLN1 HLM
        clear HKP
        obtain ⟨j, L2, rfl, hj1, hj2, ho, hlen, hval, hbx, hkp⟩ := hrel
        have HKP := hide hkp
        clear hkp
        have HO := hide ho
        have HLN := hide hlen
        have HVL := hide hval
        have HBX := hide hbx
        have HJ1 := hide hj1
        by_cases hjd : j < d
        · have z0 : decide (j < d) = true := by simpa using hjd
          have z1 : decide ((j : Int) < (d : Int)) = true := by simp; omega
          have z2 : (j : Int) < (d : Int) := by omega
          obtain ⟨m, hm⟩ : ∃ m, j = m + 1 := ⟨j - 1, by have := HA.out; omega⟩
          have wj : IntKind.i64.wrap ((j : Int) - 1) = (m : Int) := by rw [show (j : Int) - 1 = (m : Int) by omega]; exact IntWalk.i64_in _ (by omega)
          obtain ⟨⟨v, R, hr, hrl, hg⟩, hge, hbel⟩ := id ho
          obtain ⟨n, hn⟩ : ∃ n, n = R.length := ⟨_, rfl⟩
          have hmn : m < n := by
            rw [hn, ← lsts_len, hrl, hlen]
            have := HD1.out
            omega
          have hn9 : (n : Int) ≤ 65536 := by have := hr.len; omega
          obtain ⟨g, off, c, cs, rfl, _, hnc, hcm, _⟩ : ∃ g off c cs, v = .slice (some ⟨g, off, none⟩) n c ∧ wr.heap[g]? = some (.cells cs 32 (0, 0)) ∧ n ≤ c ∧ c ≤ maxLen ∧ True := by
            rcases hr.inn.row.2 with ⟨_, e⟩ | ⟨g, off, c, cs, e, e1, e2, e3, _⟩
            · omega
            · exact ⟨g, off, c, cs, by rw [hn]; exact e, e1, by omega, e3, trivial⟩
          obtain ⟨⟨q, qv⟩, hx⟩ : ∃ y, R[m]? = some y := ⟨_, List.getElem?_eq_getElem (by omega)⟩
          obtain ⟨g', off', e, d0⟩ := hr.inn.at_ hx
          cases e
          have hqs := hr.inn.inn _ (List.mem_of_getElem? hx)
          have hql : q.length ≤ N := by
            have h1 := hval m
            rw [← hrl, lsts_get hx, if_neg (by omega)] at h1
            have h2 : q = (L[m]?).getD [] := h1
            rw [h2]
            cases hq : L[m]? with
            | none => simp
            | some z => exact HFIT.out z (List.mem_of_getElem? hq)
          have HWT := hide (rwith_any (w := wr.drew) (l := q) qv x hqs (by omega))
          have c0 : wr.cell? ⟨rb, 0, none⟩ = some (.slice (some ⟨g, off, none⟩) n c) := hr.box.cell 0
          have x0 := hbx.cell 0
          have x1 := hbx.cell 1
          have x2 := hbx.cell 2
          have y0 : decide (m < n) = true := by simpa using hmn
          have y1 : decide ((m : Int) < (n : Int)) = true := by simp; omega
          have y2 : (m : Int) < (n : Int) := by omega
          have HR := hide hr
          have HRL := hide hrl
          have HG := hide hg
          have HX := hide hx
          have HM := hide hm
          have HMN := hide hmn
          have HN := hide hn
          have HJD := hide hjd
          have HQL := hide hql
          have HC := hide c0
          have HNC := hide hnc
          have HD0 := hide d0
          have HX0 := hide x0
          have HX1 := hide x1
          have HX2 := hide x2
          clear ho hlen hval hbx hj1 hj2 hjd hm hr hrl hg hge hbel hn hmn hx hqs hql hnc hcm
          go_upto_region 6 with fail
          have HK := hide (fun (y : World) (hb : Below wr.heap.size wr y) => (⟨cell_keep HC.out hb, cell_keep HD0.out hb, cell_keep HX0.out hb, cell_keep HX1.out hb, cell_keep HX2.out hb⟩ : (y.cell? ⟨rb, 0, none⟩ = some (.slice (some ⟨g, off, none⟩) n c) ∧ y.cell? ⟨g, off + m, none⟩ = some qv ∧ y.cell? ⟨w.heap.size, 0, none⟩ = some (.int .i64 x.1) ∧ y.cell? ⟨w.heap.size, 1, none⟩ = some (.int .i64 x.2.1) ∧ y.cell? ⟨w.heap.size, 2, none⟩ = some (.int .i64 x.2.2))))
          refine wp_region_d (S := fun y => (y.cell? ⟨rb, 0, none⟩ = some (.slice (some ⟨g, off, none⟩) n c) ∧ y.cell? ⟨g, off + m, none⟩ = some qv ∧ y.cell? ⟨w.heap.size, 0, none⟩ = some (.int .i64 x.1) ∧ y.cell? ⟨w.heap.size, 1, none⟩ = some (.int .i64 x.2.1) ∧ y.cell? ⟨w.heap.size, 2, none⟩ = some (.int .i64 x.2.2))) (D := [17]) (by kernel_rfl) ?_
          change wpAnyD _ _ _ _ _ _ _ _ _ wr.drew
          have hS := HK.out _ (Below.refl wr.heap.size wr).drew
          clear c0 d0 x0 x1 x2
          refine wpAnyD_takeW (i := 0) (oi := { dst := some 32, op := Op.move (Operand.tmp 0), type := 61, pos := "ref.go:111", after := #[], guard := none }) (v := ?_) rfl (by kernel_rfl) (by kernel_rfl) (by kernel_rfl) (fun _ _ _ h => h) (Or.inl ⟨by rfl, ?_⟩) ?_
          rotate_left
          · intro w hSw
            clear hSw
            go_simp
            all_goals with_reducible rfl
          simp only [Act.put, List.setIfInBounds_toArray, List.set_cons_zero, List.set_cons_succ]
          refine wpAnyD_takeW (i := 1) (oi := { dst := some 33, op := Op.nilCheck (Operand.tmp 32), type := 0, pos := "ref.go:111", after := #[{ on := 0, ground := Ground.data }], guard := none }) (v := ?_) rfl (by kernel_rfl) (by kernel_rfl) (by kernel_rfl) (fun _ _ _ h => h) (Or.inl ⟨by rfl, ?_⟩) ?_
          rotate_left
          · intro w hSw
            clear hSw
            go_simp
            all_goals with_reducible rfl
          simp only [Act.put, List.setIfInBounds_toArray, List.set_cons_zero, List.set_cons_succ]
          refine wpAnyD_takeW (i := 2) (oi := { dst := some 34, op := Op.fieldAddr 84 (Operand.tmp 33) 0, type := 0, pos := "ref.go:111", after := #[{ on := 1, ground := Ground.data }], guard := none }) (v := ?_) rfl (by kernel_rfl) (by kernel_rfl) (by kernel_rfl) (fun _ _ _ h => h) (Or.inl ⟨by rfl, ?_⟩) ?_
          rotate_left
          · intro w hSw
            clear hSw
            go_simp
            all_goals with_reducible rfl
          simp only [Act.put, List.setIfInBounds_toArray, List.set_cons_zero, List.set_cons_succ]
          refine wpAnyD_take (i := 3) (oi := { dst := some 35, op := Op.load 82 (Operand.tmp 34), type := 82, pos := "ref.go:111", after := #[{ on := 2, ground := Ground.data }], guard := none }) (v := ?_) rfl (by kernel_rfl) (by kernel_rfl) (by kernel_rfl) (by kernel_rfl) (by kernel_rfl) (fun _ _ _ h => h) (Or.inl ⟨by rfl, ?_⟩) hS ?_
          rotate_left
          · intro w hSw
            obtain ⟨s0, s1, s2, s3, s4⟩ := hSw
            go_simp
            all_goals with_reducible rfl
          simp only [Act.put, List.setIfInBounds_toArray, List.set_cons_zero, List.set_cons_succ]
          refine wpAnyD_takeW (i := 4) (oi := { dst := some 36, op := Op.move (Operand.tmp 8), type := 3, pos := "ref.go:111", after := #[], guard := none }) (v := ?_) rfl (by kernel_rfl) (by kernel_rfl) (by kernel_rfl) (fun _ _ _ h => h) (Or.inl ⟨by rfl, ?_⟩) ?_
          rotate_left
          · intro w hSw
            clear hSw
            go_simp
            all_goals with_reducible rfl
          simp only [Act.put, List.setIfInBounds_toArray, List.set_cons_zero, List.set_cons_succ]
          refine wpAnyD_takeW (i := 5) (oi := { dst := some 37, op := Op.binOp BinOp.sub 3 (Operand.tmp 36) (Operand.const (Value.int IntKind.i64 1)) 3, type := 3, pos := "ref.go:111", after := #[{ on := 4, ground := Ground.data }], guard := none }) (v := ?_) rfl (by kernel_rfl) (by kernel_rfl) (by kernel_rfl) (fun _ _ _ h => h) (Or.inl ⟨by rfl, ?_⟩) ?_
          rotate_left
          · intro w hSw
            clear hSw
            go_simp
            all_goals with_reducible rfl
          simp only [Act.put, List.setIfInBounds_toArray, List.set_cons_zero, List.set_cons_succ]
          refine wpAnyD_takeW (i := 6) (oi := { dst := some 38, op := Op.move (Operand.tmp 0), type := 61, pos := "ref.go:111", after := #[], guard := none }) (v := ?_) rfl (by kernel_rfl) (by kernel_rfl) (by kernel_rfl) (fun _ _ _ h => h) (Or.inl ⟨by rfl, ?_⟩) ?_
          rotate_left
          · intro w hSw
            clear hSw
            go_simp
            all_goals with_reducible rfl
          simp only [Act.put, List.setIfInBounds_toArray, List.set_cons_zero, List.set_cons_succ]
          refine wpAnyD_takeW (i := 7) (oi := { dst := some 39, op := Op.nilCheck (Operand.tmp 38), type := 0, pos := "ref.go:111", after := #[{ on := 6, ground := Ground.data }], guard := none }) (v := ?_) rfl (by kernel_rfl) (by kernel_rfl) (by kernel_rfl) (fun _ _ _ h => h) (Or.inl ⟨by rfl, ?_⟩) ?_
          rotate_left
          · intro w hSw
            clear hSw
            go_simp
            all_goals with_reducible rfl
          simp only [Act.put, List.setIfInBounds_toArray, List.set_cons_zero, List.set_cons_succ]
          refine wpAnyD_takeW (i := 8) (oi := { dst := some 40, op := Op.fieldAddr 84 (Operand.tmp 39) 0, type := 0, pos := "ref.go:111", after := #[{ on := 7, ground := Ground.data }], guard := none }) (v := ?_) rfl (by kernel_rfl) (by kernel_rfl) (by kernel_rfl) (fun _ _ _ h => h) (Or.inl ⟨by rfl, ?_⟩) ?_
          rotate_left
          · intro w hSw
            clear hSw
            go_simp
            all_goals with_reducible rfl
          simp only [Act.put, List.setIfInBounds_toArray, List.set_cons_zero, List.set_cons_succ]
          refine wpAnyD_take (i := 9) (oi := { dst := some 41, op := Op.load 82 (Operand.tmp 40), type := 82, pos := "ref.go:111", after := #[{ on := 8, ground := Ground.data }], guard := none }) (v := ?_) rfl (by kernel_rfl) (by kernel_rfl) (by kernel_rfl) (by kernel_rfl) (by kernel_rfl) (fun _ _ _ h => h) (Or.inl ⟨by rfl, ?_⟩) hS ?_
          rotate_left
          · intro w hSw
            obtain ⟨s0, s1, s2, s3, s4⟩ := hSw
            go_simp
            all_goals with_reducible rfl
          simp only [Act.put, List.setIfInBounds_toArray, List.set_cons_zero, List.set_cons_succ]
          refine wpAnyD_takeW (i := 10) (oi := { dst := some 42, op := Op.move (Operand.tmp 8), type := 3, pos := "ref.go:111", after := #[], guard := none }) (v := ?_) rfl (by kernel_rfl) (by kernel_rfl) (by kernel_rfl) (fun _ _ _ h => h) (Or.inl ⟨by rfl, ?_⟩) ?_
          rotate_left
          · intro w hSw
            clear hSw
            go_simp
            all_goals with_reducible rfl
          simp only [Act.put, List.setIfInBounds_toArray, List.set_cons_zero, List.set_cons_succ]
          refine wpAnyD_takeW (i := 11) (oi := { dst := some 43, op := Op.binOp BinOp.sub 3 (Operand.tmp 42) (Operand.const (Value.int IntKind.i64 1)) 3, type := 3, pos := "ref.go:111", after := #[{ on := 10, ground := Ground.data }], guard := none }) (v := ?_) rfl (by kernel_rfl) (by kernel_rfl) (by kernel_rfl) (fun _ _ _ h => h) (Or.inl ⟨by rfl, ?_⟩) ?_
          rotate_left
          · intro w hSw
            clear hSw
            go_simp
            all_goals with_reducible rfl
          simp only [Act.put, List.setIfInBounds_toArray, List.set_cons_zero, List.set_cons_succ]
          refine wpAnyD_takeW (i := 12) (oi := { dst := some 44, op := Op.indexAddr 82 (Operand.tmp 41) (Operand.tmp 43), type := 0, pos := "ref.go:111", after := #[{ on := 9, ground := Ground.data }, { on := 11, ground := Ground.data }], guard := none }) (v := ?_) rfl (by kernel_rfl) (by kernel_rfl) (by kernel_rfl) (fun _ _ _ h => h) (Or.inl ⟨by rfl, ?_⟩) ?_
          rotate_left
          · intro w hSw
            clear hSw
            go_simp
            all_goals with_reducible rfl
          simp only [Act.put, List.setIfInBounds_toArray, List.set_cons_zero, List.set_cons_succ]
          refine wpAnyD_take (i := 13) (oi := { dst := some 45, op := Op.load 32 (Operand.tmp 44), type := 32, pos := "ref.go:111", after := #[{ on := 12, ground := Ground.data }], guard := none }) (v := ?_) rfl (by kernel_rfl) (by kernel_rfl) (by kernel_rfl) (by kernel_rfl) (by kernel_rfl) (fun _ _ _ h => h) (Or.inl ⟨by rfl, ?_⟩) hS ?_
          rotate_left
          · intro w hSw
            obtain ⟨s0, s1, s2, s3, s4⟩ := hSw
            go_simp
            all_goals with_reducible rfl
          simp only [Act.put, List.setIfInBounds_toArray, List.set_cons_zero, List.set_cons_succ]
          refine wpAnyD_take (i := 14) (oi := { dst := some 46, op := Op.load 36 (Operand.tmp 7), type := 36, pos := "ref.go:111", after := #[], guard := none }) (v := ?_) rfl (by kernel_rfl) (by kernel_rfl) (by kernel_rfl) (by kernel_rfl) (by kernel_rfl) (fun _ _ _ h => h) (Or.inl ⟨by rfl, ?_⟩) hS ?_
          rotate_left
          · intro w hSw
            obtain ⟨s0, s1, s2, s3, s4⟩ := hSw
            go_simp
            all_goals with_reducible rfl
          simp only [Act.put, List.setIfInBounds_toArray, List.set_cons_zero, List.set_cons_succ]
          clear hS
          refine wpAnyD_one (i := 15) (o := { dst := some 47, op := Op.call { callee := Callee.value (Operand.func 93), args := #[Operand.tmp 45, Operand.tmp 46], argTypes := #[32, 36] }, type := 32, pos := "ref.go:111", after := #[{ on := 13, ground := Ground.data }, { on := 14, ground := Ground.data }], guard := none }) (by kernel_rfl) rfl (fun K hK => ?_)
          go_simp
          (with_reducible refine Calls.mono HWT.out ?_)
          rintro r w5 ⟨v5, rfl, h5, _, b5⟩
          have H5 := hide h5
          have B5 := hide (show Below wr.heap.size wr w5 from (Below.refl wr.heap.size wr).drew.trans b5)
          have hS := HK.out _ B5.out
          clear h5 b5
          refine hK _ _ (fun _ _ => hS) ?_
          clear hK K
          try simp only [Act.put, List.setIfInBounds_toArray, List.set_cons_zero, List.set_cons_succ]
          obtain ⟨A5, c5, e5, _⟩ := Sl.form H5.out
          subst e5
          refine wpAnyD_takeW (i := 16) (oi := { dst := some 48, op := Op.indexAddr 82 (Operand.tmp 35) (Operand.tmp 37), type := 0, pos := "ref.go:111", after := #[{ on := 3, ground := Ground.data }, { on := 5, ground := Ground.data }, { on := 0, ground := Ground.phase }, { on := 1, ground := Ground.phase }, { on := 2, ground := Ground.phase }, { on := 3, ground := Ground.phase }, { on := 4, ground := Ground.phase }, { on := 5, ground := Ground.phase }, { on := 6, ground := Ground.phase }, { on := 7, ground := Ground.phase }, { on := 8, ground := Ground.phase }, { on := 9, ground := Ground.phase }, { on := 10, ground := Ground.phase }, { on := 11, ground := Ground.phase }, { on := 12, ground := Ground.phase }, { on := 13, ground := Ground.phase }, { on := 14, ground := Ground.phase }, { on := 15, ground := Ground.phase }], guard := none }) (v := ?_) rfl (by kernel_rfl) (by kernel_rfl) (by kernel_rfl) (fun _ _ _ h => h) (Or.inl ⟨by rfl, ?_⟩) ?_
          rotate_left
          · intro w hSw
            clear hSw
            go_simp
            all_goals with_reducible rfl
          simp only [Act.put, List.setIfInBounds_toArray, List.set_cons_zero, List.set_cons_succ]
          have r0 := hS.2.1
          have r1 := (row_facts (HR.out.below B5.out) HN.out HMN.out HX.out (.slice A5 (withP q x).length c5)).2.1
          clear hS
          refine wpAnyD_one (i := 17) (o := { dst := none, op := Op.store 32 (Operand.tmp 48) (Operand.tmp 47), type := 0, pos := "ref.go:111", after := #[{ on := 16, ground := Ground.data }, { on := 15, ground := Ground.data }, { on := 15, ground := Ground.chain }, { on := 0, ground := Ground.phase }, { on := 1, ground := Ground.phase }, { on := 2, ground := Ground.phase }, { on := 3, ground := Ground.phase }, { on := 4, ground := Ground.phase }, { on := 5, ground := Ground.phase }, { on := 6, ground := Ground.phase }, { on := 7, ground := Ground.phase }, { on := 8, ground := Ground.phase }, { on := 9, ground := Ground.phase }, { on := 10, ground := Ground.phase }, { on := 11, ground := Ground.phase }, { on := 12, ground := Ground.phase }, { on := 13, ground := Ground.phase }, { on := 14, ground := Ground.phase }, { on := 15, ground := Ground.phase }], guard := none }) (by kernel_rfl) rfl (fun K hK => ?_)
          go_simp
          refine hK _ _ (fun h => by cases h) ?_
          clear hK K
          try simp only [Act.put, List.setIfInBounds_toArray, List.set_cons_zero, List.set_cons_succ]
          refine wpAnyD_done (by kernel_rfl) ?_ _
          have HNEW := hide (show ROb W (w5.setCell ⟨g, off + m, none⟩ (.slice A5 (withP q x).length c5)) rb (L2.set m (withP q x)) by
            have := ROb.set_ (W := W) (HR.out.below B5.out) HN.out HMN.out H5.out (by have := (withP_len x q).2; have := HQL.out; omega) HO.out.ge HG.out (HO.out.bel.trans (B5.out.mono HO.out.bel.size))
            rw [HRL.out] at this
            exact this)
          have HXB := hide (show Blk (w5.setCell ⟨g, off + m, none⟩ (.slice A5 (withP q x).length c5)) w.heap.size 36 #[.int .i64 x.1, .int .i64 x.2.1, .int .i64 x.2.2] by
            have hbx := HBX.out.below B5.out HBX.out.lt
            have hrow := (HR.out.below B5.out).inn.row
            rw [← HN.out] at hrow
            exact hbx.far (p := ⟨g, off + m, none⟩) (fun e => Sl.ne_blk hrow hbx (by decide) (by rw [e]; rfl)) _)
          have HKN := hide (show KeepT isRef w (w5.setCell ⟨g, off + m, none⟩ (.slice A5 (withP q x).length c5)) by
            have hrow := (HR.out.below B5.out).inn.row
            rw [← HN.out] at hrow
            exact (HKP.out.trans (KeepT.of_below B5.out)).trans (keep_row hrow))
          have HQM := hide (show q = (L[m]?).getD [] by
            have h1 := HVL.out m
            rw [← HRL.out, lsts_get HX.out, if_neg (by have := HM.out; omega)] at h1
            exact h1)
          go_wp2
          go_roundw
          case rel =>
            refine ⟨j + 1, _, by go_num, by have := HJ1.out; omega, HJD.out, HNEW.out, by rw [List.length_set]; exact HLN.out, fun i => ?_, HXB.out, HKN.out⟩
            rw [List.getElem?_set]
            by_cases e : m = i
            · subst e
              have hml : m < L2.length := by rw [← HRL.out, lsts_len, ← HN.out]; exact HMN.out
              rw [if_pos rfl, if_pos hml, if_pos (by have := HM.out; have := HJ1.out; omega), ← HQM.out]
              rfl
            · rw [if_neg e, HVL.out i]
              by_cases hc : a ≤ i + 1 ∧ i + 1 < j
              · rw [if_pos hc, if_pos (by omega)]
              · rw [if_neg hc, if_neg (by have := HM.out; omega)]
          case measure => have := HJD.out; simp [intOf]; omega
        · have z0 : decide (j < d) = false := by simpa using hjd
          have z1 : decide ((j : Int) < (d : Int)) = false := by simp; omega
          have z2 : ¬ (j : Int) < (d : Int) := by omega
          have HJD := hide (show j = d by omega)
          clear ho hlen hval hbx hj1 hj2 hjd
          go_wp2
          go_end0
          refine ⟨rfl, L2, HO.out, ⟨?_, fun i => ?_⟩, HKP.out⟩
          · rw [HLN.out, HD1.out]
            rfl
          · rw [HVL.out i, HJD.out]
end
end Go.Proofs.Ytgiogmbopiblmaa
