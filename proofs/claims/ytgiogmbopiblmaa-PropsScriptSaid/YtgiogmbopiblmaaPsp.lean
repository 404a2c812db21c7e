/- The reference's Inserted. No condition but those written. -/
import Derived.Test.YtgiogmbopiblmaaPsm
namespace Go.Proofs.Ytgiogmbopiblmaa
open Go.RowKit

section
variable {P : List Pc} {N a n i : Nat}
theorem end_at (h : Nf 0 [] P) (hP : 0 < endP P) : den P (endP P - 1) ≠ [] := by
  rcases List.eq_nil_or_concat P with rfl | ⟨l, p, rfl⟩
  · exact absurd hP (by rw [endP_nil]; omega)
  · rw [List.concat_eq_append] at h hP ⊢
    obtain ⟨_, n2, n3, n4, _⟩ := Nf.snoc.1 h
    rw [endP_snoc] at hP ⊢
    rw [den_snoc h, if_neg (by omega), if_pos (by omega)]
    exact n4
theorem insE_no (hg : Good P N) (h1 : 1 ≤ a) (h2 : a ≤ 65537) (h3 : n ≤ 65536) (hz : ∀ i : Nat, a ≤ i → 65536 < i + n → den P i = []) : insE P a n = 0 ∧ insQ P a n = insP a n P := by
  have e : insE P a n = 0 := by
    unfold insE
    rw [if_neg (by omega), if_neg (by omega), if_neg]
    rintro ⟨c1, c2⟩
    exact end_at hg.nf (by omega) (hz (endP P - 1) (by omega) (by omega))
  refine ⟨e, ?_⟩
  unfold insQ
  rw [if_pos e, Int.toNat_natCast, Int.toNat_natCast]
theorem insE_far (hg : Good P N) (h1 : 1 ≤ a) (h2 : a ≤ 65537) (h3 : n ≤ 65536) (hi : a ≤ i) (hf : 65536 < i + n) (hd : den P i ≠ []) : insE P a n = 3 ∧ insQ P a n = P := by
  have hie : i < endP P := by
    rcases Nat.lt_or_ge i (endP P) with c | c
    · exact c
    · exact absurd (den_high hg.nf c) hd
  have e : insE P a n = 3 := by
    unfold insE
    rw [if_neg (by omega), if_neg (by omega), if_pos (by omega)]
  refine ⟨e, ?_⟩
  unfold insQ
  rw [if_neg (by omega)]
theorem ins_past {L : List (List Pr)} (hl : Like L P) (hg : Good P N) (_h1 : 1 ≤ a) (h : L.length < a) : Like L (insP a n P) := by
  obtain ⟨_, _, g3⟩ := ins_inv a n P hg.nf
  have hz : ∀ i, L.length ≤ i → den P (i + 1) = [] := fun i hi => by
    have := hl i
    rw [List.getElem?_eq_none hi] at this
    exact this.symm
  intro i
  rw [g3]
  by_cases c : i + 1 < a
  · rw [if_pos c]
    exact hl i
  · rw [if_neg c, List.getElem?_eq_none (by omega)]
    by_cases c2 : i + 1 < a + n
    · rw [if_pos c2]
      rfl
    · rw [if_neg c2, show i + 1 - n = (i - n) + 1 by omega, hz (i - n) (by omega)]
      rfl
end
section
variable {W w : World} {rb : Nat} {L : List (List Pr)} {P : List Pc} {v : Value} {R : List (List Pr × Value)}
theorem LxAt.boxed {T : TypeId} {u : Value} (h : LxAt w v R) (hb : Blk w rb T #[u]) (h1 : T ≠ 32) (h2 : T ≠ 36) (v' : Value) : LxAt (w.setCell ⟨rb, 0, none⟩ v') v R := by
  have hst : Only (· = rb) w (w.setCell ⟨rb, 0, none⟩ v') := (Only.refl (· = rb) w).setCell (p := ⟨rb, 0, none⟩) (.inl rfl) _
  refine ⟨h.row.only hst fun g hg e => ?_, fun x hx => Sl.only (h.inn x hx) hst fun g hg e => ?_⟩
  · subst e
    exact Sl.ne_blk h.row hb (Ne.symm h1) hg
  · subst e
    exact Sl.ne_blk (h.inn x hx) hb (Ne.symm h2) hg
theorem LxAt.cut {A : Option Addr} {n c m : Nat} (h : LxAt w (.slice A n c) R) (hn : n = R.length) (hm : m ≤ n) : LxAt w (.slice A m c) (R.take m) := by
  subst hn
  have h1 := h.row.cut hm
  rw [rows_take lxC_len] at h1
  refine ⟨?_, fun x hx => h.inn x (List.mem_of_mem_take hx)⟩
  rw [List.length_take, Nat.min_eq_left hm]
  exact h1
/-- New lists that are being put together. -/
structure NewL (w w' : World) (v : Value) (R : List (List Pr × Value)) : Prop where
  bel : Below w.heap.size w w'
  inn : LxAt w' v R
  own : ∀ g, v.ownBlock = some g → w.heap.size ≤ g
def noneL (j : Nat) : List (List Pr × Value) := List.replicate j ([], .slice none 0 0)
theorem noneL_step (R : List (List Pr × Value)) (j : Nat) : R ++ noneL (j + 1) = R ++ noneL j ++ [([], .slice none 0 0)] := by
  unfold noneL
  rw [List.replicate_succ', List.append_assoc]
set_option maxRecDepth 100000 in
set_option maxHeartbeats 16000000 in
theorem rIns_code (h : ROb W w rb L) (hl : Like L P) (hg : Good P 64) {a n : Nat} (h1 : 1 ≤ a) (h2 : a ≤ 65537) (h3 : n ≤ 65536) : Calls Try.prog 66 #[.pointer (some ⟨rb, 0, none⟩), .int .i64 (a : Int), .int .i64 (n : Int)] w (RRes W w rb (insQ P a n) (.int .i64 (insE P a n))) := by
  have HSAME := hide (fun (Q : List Pc) (hq : Like L Q) (y : World) (hb : Below w.heap.size w y) => RRes.same h hq hb)
  obtain ⟨v0, R, hr, hrl, hg0⟩ := h.ex
  obtain ⟨A, c, rfl, hnc, hcm⟩ := hr.inn.row.form
  obtain ⟨nn, hnn⟩ : ∃ m, m = R.length := ⟨_, rfl⟩
  have hlen : L.length = nn := by rw [← hrl, lsts_len, hnn]
  have hn9 : (nn : Int) ≤ 65536 := by have := hr.len; omega
  have HR := hide hr
  rw [← hnn] at HR hnc
  have c0 : w.cell? ⟨rb, 0, none⟩ = some (.slice A nn c) := by rw [hnn]; exact hr.box.cell 0
  have HNN := hide hnn
  have HRL := hide hrl
  have HLEN := hide hlen
  have H := hide h
  have HL := hide hl
  have HG := hide hg
  have HNO := hide (fun (hz : ∀ i : Nat, a ≤ i → 65536 < i + n → den P i = []) => insE_no hg h1 h2 h3 hz)
  have HFAR := hide (fun (i : Nat) (hi : a ≤ i) (hf : 65536 < i + n) (hd : den P i ≠ []) => insE_far hg h1 h2 h3 hi hf hd)
  have HPAST := hide (fun (hp : L.length < a) => ins_past (n := n) hl hg h1 hp)
  have HINS := hide (fun (ha : a ≤ L.length) (hz : ∀ i, a ≤ i + 1 → 65536 < i + 1 + n → den P (i + 1) = []) => ins_like hl hg h1 ha hz)
  have HA1 := hide h1
  have HNC := hide hnc
  obtain ⟨a0, ha0⟩ : ∃ m, a = m + 1 := ⟨a - 1, by omega⟩
  have HA0 := hide ha0
  have wa : IntKind.i64.wrap ((a : Int) - 1) = (a0 : Int) := by rw [show (a : Int) - 1 = (a0 : Int) by omega]; exact IntWalk.i64_in _ (by omega)
  have z1 : decide ((a : Int) < 1) = false := by simp; omega
  have z2 : decide ((65537 : Int) < (a : Int)) = false := by simp; omega
  have z3 : ¬ (a : Int) < 1 := by omega
  have z4 : ¬ (65537 : Int) < (a : Int) := by omega
  have z5 : decide ((n : Int) < 0) = false := by simp
  have z6 : decide ((65536 : Int) < (n : Int)) = false := by simp; omega
  have z7 : ¬ (n : Int) < 0 := by omega
  have z8 : ¬ (65536 : Int) < (n : Int) := by omega
  have ha9 : (a : Int) ≤ 65537 := by omega
  have hn8 : (n : Int) ≤ 65536 := by omega
  have hc9 : (c : Int) ≤ 9223372036854775807 := by unfold maxLen at hcm; omega
  obtain ⟨j0, hj, hy0, hy1, hy2⟩ := info_parts info_lx
  have HJ := hide hj
  have HY := hide hy0
  have HY1 := hide hy1
  have HY2 := hide hy2
  clear h hl hg hr hrl hg0 hnn hlen h1 h2 h3 ha0 hj hy0 hy1 hy2 hnc hcm
  go_enter Try.func66, Try.ntmps66
  go_wp2_with fail
  go_loopw [7] (fun iv wr => ∃ i : Nat, iv = .int .i64 (i : Int) ∧ a ≤ i ∧ i ≤ max a (nn + 1) ∧ (∀ j : Nat, a ≤ j → j < i → 65536 < j + n → den P j = []) ∧ w = wr) (fun iv _ => nn + 1 - (intOf iv).toNat)
  case atStart => exact ⟨a, rfl, Nat.le_refl _, Nat.le_max_left _ _, fun j h1 h2 => absurd h1 (by omega), rfl⟩
  case round =>
    obtain ⟨i, rfl, hi1, hi2, hz, rfl⟩ := hrel
    have HZ := hide hz
    have HI1 := hide hi1
    have HI2 := hide hi2
    have hi9 : (i : Int) ≤ 65537 := by omega
    by_cases hin : i ≤ nn
    · have y1 : decide (i ≤ nn) = true := by simpa using hin
      have y2 : decide ((i : Int) ≤ (nn : Int)) = true := by simp; omega
      have y3 : (i : Int) ≤ (nn : Int) := by omega
      obtain ⟨m, hm⟩ : ∃ m, i = m + 1 := ⟨i - 1, by have := HA1.out; omega⟩
      have wj : IntKind.i64.wrap ((i : Int) - 1) = (m : Int) := by rw [show (i : Int) - 1 = (m : Int) by omega]; exact IntWalk.i64_in _ (by omega)
      have wi : IntKind.i64.wrap ((i : Int) + (n : Int)) = (i : Int) + (n : Int) := IntWalk.i64_in _ (by omega)
      have hmn : m < nn := by omega
      have y4 : decide (m < nn) = true := by simpa using hmn
      have y5 : decide ((m : Int) < (nn : Int)) = true := by simp; omega
      have y6 : (m : Int) < (nn : Int) := by omega
      obtain ⟨⟨q, qv⟩, hx⟩ : ∃ y, R[m]? = some y := ⟨_, List.getElem?_eq_getElem (by have := HNN.out; omega)⟩
      obtain ⟨g, off, rfl, d0⟩ := HR.out.inn.at_ hx
      have hqs := HR.out.inn.inn _ (List.mem_of_getElem? hx)
      have hql : (q.length : Int) ≤ 1000 := by have := HR.out.fit _ (List.mem_of_getElem? hx); exact Int.ofNat_le.2 this
      obtain ⟨Aq, cq, hqv, _⟩ := Sl.form hqs
      have hqv2 : qv = .slice Aq q.length cq := hqv
      subst hqv2
      have hdq : den P i = q := by
        rw [hm, ← HL.out m, ← HRL.out, lsts_get hx]
        rfl
      have HDQ := hide hdq
      have HIN := hide hin
      obtain ⟨ql, hqle⟩ : ∃ m, m = q.length := ⟨_, rfl⟩
      rw [← hqle] at d0 hql
      have HQL := hide hqle
      clear hi1 hi2 hz hin hm hmn hx hqs hqv hdq hqle
      by_cases hq : 0 < ql
      · have u1 : decide (0 < ql) = true := by simpa using hq
        have u2 : decide ((0 : Int) < (ql : Int)) = true := by simp; omega
        have u3 : (0 : Int) < (ql : Int) := by omega
        by_cases hf : (65536 : Int) < (i : Int) + (n : Int)
        · have t1 : decide ((65536 : Int) < (i : Int) + (n : Int)) = true := by simpa using hf
          have HE := hide (HFAR.out i HI1.out (by omega) (by rw [HDQ.out]; intro e; rw [e] at HQL; have := HQL.out; simp at this; omega))
          have HF := hide hf
          clear hq hf
          go_wp2_with fail
          go_ret
          rw [HE.out.1, HE.out.2]
          exact ⟨rfl, HSAME.out P HL.out _ (Below.refl _ _)⟩
        · have t1 : decide ((65536 : Int) < (i : Int) + (n : Int)) = false := by simpa using hf
          have HF := hide hf
          clear hq
          go_wp2_with fail
          go_roundw
          case rel => exact ⟨i + 1, by go_num, by have := HI1.out; omega, by have := HI2.out; have := HIN.out; omega, fun j k1 k2 k3 => by
            rcases Nat.lt_or_ge j i with c | c
            · exact HZ.out j k1 c k3
            · have := HF.out
              exact absurd k3 (by omega), trivial⟩
          case measure => have := HIN.out; simp [intOf]; omega
      · have u1 : decide (0 < ql) = false := by simpa using hq
        have u2 : decide ((0 : Int) < (ql : Int)) = false := by simp; omega
        have u3 : ¬ (0 : Int) < (ql : Int) := by omega
        have HE := hide (show den P i = [] by
          rw [HDQ.out]
          exact List.eq_nil_of_length_eq_zero (by have := HQL.out; omega))
        clear hq
        go_wp2_with fail
        go_roundw
        case rel => exact ⟨i + 1, by go_num, by have := HI1.out; omega, by have := HI2.out; have := HIN.out; omega, fun j k1 k2 k3 => by
          rcases Nat.lt_or_ge j i with c | c
          · exact HZ.out j k1 c k3
          · obtain rfl : j = i := by omega
            exact HE.out, trivial⟩
        case measure => have := HIN.out; simp [intOf]; omega
    · have y1 : decide (i ≤ nn) = false := by simpa using hin
      have y2 : decide ((i : Int) ≤ (nn : Int)) = false := by simp; omega
      have y3 : ¬ (i : Int) ≤ (nn : Int) := by omega
      have HZZ := hide (show ∀ j : Nat, a ≤ j → 65536 < j + n → den P j = [] from fun j k1 k2 => by
        rcases Nat.lt_or_ge j i with c | c
        · exact hz j k1 c k2
        · obtain ⟨m, rfl⟩ : ∃ m, j = m + 1 := ⟨j - 1, by have := HA1.out; omega⟩
          rw [← HL.out m, List.getElem?_eq_none (by have := HLEN.out; omega)]
          rfl)
      have HEE := hide (HNO.out HZZ.out)
      by_cases hpa : nn < a
      · have u1 : decide (nn < a) = true := by simpa using hpa
        have u2 : decide ((nn : Int) < (a : Int)) = true := by simp; omega
        have u3 : (nn : Int) < (a : Int) := by omega
        have HK := hide (HPAST.out (by have := HLEN.out; omega))
        clear hi1 hi2 hz hin hpa
        go_wp2_with fail
        go_ret
        rw [HEE.out.1, HEE.out.2]
        exact ⟨rfl, HSAME.out _ HK.out _ (Below.refl _ _)⟩
      · have u1 : decide (nn < a) = false := by simpa using hpa
        have u2 : decide ((nn : Int) < (a : Int)) = false := by simp; omega
        have u3 : ¬ (nn : Int) < (a : Int) := by omega
        have hk1 : a0 ≤ nn := by have := HA0.out; omega
        have HK1 := hide hk1
        have HKN := hide (show a0 < nn by have := HA0.out; omega)
        have k5 : (a0 : Int) ≤ (c : Int) := by have := HNC.out; omega
        have k6 : (a0 : Int) ≤ (nn : Int) := by omega
        have k7 : (nn : Int) ≤ (c : Int) := by have := HNC.out; omega
        have k8 : a0 ≤ c := by have := HNC.out; omega
        obtain ⟨g, off, c', cs, e, _⟩ : ∃ g off c' cs, (Value.slice A nn c) = .slice (some ⟨g, off, none⟩) nn c' ∧ w.heap[g]? = some (.cells cs 32 (0, 0)) := by
          rcases HR.out.inn.row.2 with ⟨e, e2⟩ | ⟨g, off, c', cs, e, e1, _⟩
          · exact absurd e2 (by have := HNN.out; have := HKN.out; omega)
          · exact ⟨g, off, c', cs, by rw [e, HNN.out], e1⟩
        obtain ⟨rfl, rfl⟩ : A = some ⟨g, off, none⟩ ∧ c = c' := by
          injection e with e1 _ e2
          exact ⟨e1, e2⟩
        have HFR := hide (HR.out.inn.front HNN.out HK1.out c)
        clear hi1 hi2 hz hin hpa hk1 e
        go_wp2_with (at_builtin; refine wpList_append_sl rfl (.tmp 57) (.tmp 64) 82 rfl 32 j0 (.slice none 0 0) 1 24 Try.underlying82 HJ.out HY.out HY1.out HY2.out rfl (.slice none 0 0) 0 [] rfl (Sl.nil _ _ _) _ rfl a0 (rows lxC (R.take a0)) HFR.out (HR.out.inn.part fun x hx => List.mem_of_mem_take hx) ?b1 ?b2 ?_)
        case b1 => unfold maxLen; omega
        case b2 => omega
        intro v2 w2 hs2 ho2 hv2
        have hF2 := fresh_step (Below.refl w.heap.size w) (by intro g hg; cases hg) ho2 hv2
        have HN2 := hide (show NewL w w2 v2 (R.take a0 ++ noneL 0) from ⟨hF2.1, ⟨by
          have e : (R.take a0 ++ noneL 0).length = a0 := by
            have := HNN.out
            have := HK1.out
            unfold noneL
            rw [List.length_append, List.length_take, List.length_replicate]
            omega
          rw [e]
          unfold noneL
          rw [List.replicate_zero, List.append_nil]
          exact hs2, fun x hx => by
          unfold noneL at hx
          rw [List.replicate_zero, List.append_nil] at hx
          exact (HR.out.below hF2.1).inn.inn x (List.mem_of_mem_take hx)⟩, hF2.2⟩)
        obtain ⟨A2, c2, rfl, _⟩ := hs2.form
        clear hs2 ho2 hv2 hF2 wa
        have wa : IntKind.i64.wrap ((a : Int) - 1) = (a0 : Int) := by have := HA0.out; rw [show (a : Int) - 1 = (a0 : Int) by omega]; exact IntWalk.i64_in _ (by omega)
        go_wp2_with fail
        go_loopw [8, 9] (fun ov jv wr => ∃ j : Nat, jv = .int .i64 (j : Int) ∧ j ≤ n ∧ NewL w wr ov (R.take a0 ++ noneL j)) (fun _ jv _ => n - (intOf jv).toNat)
        case atStart => exact ⟨0, rfl, Nat.zero_le _, HN2.out⟩
        case round =>
          clear HN2 c0
          obtain ⟨j, rfl, hj, ho⟩ := hrel
          have HO := hide ho
          obtain ⟨k, hk⟩ : ∃ k, k = (R.take a0 ++ noneL j).length := ⟨_, rfl⟩
          have HKE := hide (show k = a0 + j by
            have := HNN.out
            have := HK1.out
            rw [hk]
            unfold noneL
            rw [List.length_append, List.length_take, List.length_replicate]
            omega)
          have HK := hide hk
          obtain ⟨Ao, co, rfl, _⟩ := ho.inn.row.form
          rw [← hk] at HO ⊢
          have hk9 : (k : Int) ≤ 140000 := by have := HKE.out; have := HK1.out; omega
          by_cases hlt : j < n
          · have t1 : decide (j < n) = true := by simpa using hlt
            have t2 : decide ((j : Int) < (n : Int)) = true := by simp; omega
            have t3 : (j : Int) < (n : Int) := by omega
            have HLT := hide hlt
            have HS := hide (Sl.alloc HO.out.inn.row (.cells (lxC ([], .slice none 0 0)).toArray 32))
            rw [← hk] at HS
            clear hj ho hk hlt
            go_wp2_with (at_builtin; refine wpList_append_sl rfl (.tmp 71) (.tmp 72) 82 rfl 32 j0 (.slice none 0 0) 1 24 Try.underlying82 HJ.out HY.out HY1.out HY2.out rfl (.slice Ao k co) k (rows lxC (R.take a0 ++ noneL j)) rfl HS.out _ rfl 1 _ (rd_elem wr 32 1 (lxC ([], .slice none 0 0)) rfl) (fun u hu => by simp [lxC] at hu; rw [hu]; rfl) ?b1 ?b2 ?_)
            case b1 => unfold maxLen; omega
            case b2 => omega
            intro v3 w3 hs3 ho3 hv3
            have hf3 := fresh_put HO.out.bel HO.out.own _ ho3 (by rw [World.size_alloc]; exact hv3)
            have HN3 := hide (show NewL w w3 v3 (R.take a0 ++ noneL (j + 1)) by
              rw [noneL_step]
              exact ⟨hf3.1, HO.out.inn.more (Below.refl _ _) (Sl.nil _ _ _) _ (by rw [← HK.out]; exact hs3) ho3, hf3.2⟩)
            clear hs3 ho3 hv3 hf3
            go_wp2_with fail
            go_roundw
            case rel => exact ⟨j + 1, by go_num, HLT.out, HN3.out⟩
            case measure => have := HLT.out; simp [intOf]; omega
          · obtain rfl : j = n := by omega
            have t1 : decide (j < j) = false := by simp
            have t2 : decide ((j : Int) < (j : Int)) = false := by simp
            have hro := HR.out.below ho.bel
            have c0 : wr.cell? ⟨rb, 0, none⟩ = some (.slice (some ⟨g, off, none⟩) nn c) := hro.box.cell 0
            obtain ⟨Bv, hBv⟩ : ∃ Bv, (if c = a0 then some (⟨g, off, none⟩ : Addr) else some (⟨g, off + a0, none⟩ : Addr)) = Bv := ⟨_, rfl⟩
            obtain ⟨m, hm⟩ : ∃ m, nn - a0 = m := ⟨_, rfl⟩
            have hm9 : (m : Int) ≤ 65536 := by omega
            have HM := hide hm
            have HBK := hide (show Rd wr (.slice Bv m (c - a0)) 1 m (rows lxC (R.drop a0)) by
              have h9 := hro.inn.back HNN.out HK1.out HNC.out (c - a0)
              rw [hBv, hm] at h9
              exact h9)
            have HRW := hide HO.out.inn.row
            rw [← hk] at HRW
            clear hj ho hk hro
            go_wp2_with (at_builtin; refine wpList_append_sl rfl (.tmp 75) (.tmp 82) 82 rfl 32 j0 (.slice none 0 0) 1 24 Try.underlying82 HJ.out HY.out HY1.out HY2.out rfl (.slice Ao k co) k (rows lxC (R.take a0 ++ noneL j)) rfl HRW.out _ rfl m (rows lxC (R.drop a0)) HBK.out (HR.out.inn.part fun x hx => List.mem_of_mem_drop hx) ?b1 ?b2 ?_)
            case b1 => unfold maxLen; omega
            case b2 => omega
            intro v3 w3 hs3 ho3 hv3
            have hf3 := fresh_step HO.out.bel HO.out.own ho3 hv3
            obtain ⟨N6, hN6⟩ : ∃ y, y = k + m := ⟨_, rfl⟩
            have hlQ : (R.take a0 ++ noneL j ++ R.drop a0).length = N6 := by
              have e1 := HK.out
              have e2 := HM.out
              have e3 := HNN.out
              rw [List.length_append, ← e1, List.length_drop]
              omega
            rw [← hN6] at hs3
            have HN3 := hide (show NewL w w3 v3 (R.take a0 ++ noneL j ++ R.drop a0) from ⟨hf3.1, ⟨by rw [hlQ, rows_append]; exact hs3, fun x hx => by
              rcases List.mem_append.1 hx with hx | hx
              · exact PrS.apartT (HO.out.inn.inn x hx) HO.out.inn.row (by decide) ho3
              · exact (HR.out.below hf3.1).inn.inn x (List.mem_of_mem_drop hx)⟩, hf3.2⟩)
            obtain ⟨g6, o6, c6, rfl, k9, k10, _⟩ := hs3.at_ (by have := HM.out; have := HKN.out; omega)
            have hbx := (HR.out.below hf3.1).box
            have HBX := hide hbx
            have r0 := hbx.cell 0
            have r1 := hbx.frozen 0
            have HLQ := hide hlQ
            have hN9 : (N6 : Int) ≤ 300000 := by omega
            obtain ⟨m6, hm6⟩ : ∃ y, y = min N6 65536 := ⟨_, rfl⟩
            have q1 : ∀ (w : World), (Builtin.min_ #[3, 3] 3 #[.int .i64 (N6 : Int), .int .i64 65536]).run Try.prog w = .ok (.int .i64 (m6 : Int)) w := fun w => by rw [run_min_int2, hm6]; congr 3; split <;> omega
            have k11 : m6 ≤ N6 := by omega
            have k12 : m6 ≤ c6 := by omega
            have k13 : (m6 : Int) ≤ (c6 : Int) := by omega
            have k14 : (N6 : Int) ≤ (c6 : Int) := by omega
            have HM6 := hide hm6
            have HM7 := hide k11
            clear hs3 ho3 hv3 hf3 hN6 hlQ hm6 hbx hBv hm k9 k10
            go_upto_region 19 with fail
            have HBY := hide (HBX.out.set_ 0 (.slice (some ⟨g6, o6, none⟩) N6 c6))
            have HLX := hide (HN3.out.inn.boxed HBX.out (by decide) (by decide) (.slice (some ⟨g6, o6, none⟩) N6 c6))
            obtain ⟨w4, hw4⟩ : ∃ y : World, y = w3.setCell ⟨rb, 0, none⟩ (.slice (some ⟨g6, o6, none⟩) N6 c6) := ⟨_, rfl⟩
            have HKP4 := hide (show KeepT isRef w w4 from by rw [hw4]; exact (KeepT.of_below HN3.out.bel).trans (keep_store HBX.out))
            have HBL4 := hide (show Below W.heap.size W w4 from by rw [hw4]; exact (H.out.bel.trans (HN3.out.bel.mono H.out.bel.size)).setCell (p := ⟨rb, 0, none⟩) H.out.ge _)
            rw [← hw4] at HBY HLX ⊢
            clear hw4 r0 r1
            have hby : Blk w4.drew rb 84 #[.slice (some ⟨g6, o6, none⟩) N6 c6] := HBY.out
            have HBD := hide hby
            have HLD := hide (show LxAt w4.drew (.slice (some ⟨g6, o6, none⟩) N6 c6) (R.take a0 ++ noneL j ++ R.drop a0) from ⟨HLX.out.row.drew, HLX.out.inn⟩)
            have hS := hby.cell 0
            have rf := hby.frozen 0
            refine wp_region_d (S := fun y => y.cell? ⟨rb, 0, none⟩ = some (.slice (some ⟨g6, o6, none⟩) N6 c6)) (D := [14]) (by kernel_rfl) ?_
            change wpAnyD _ _ _ _ _ _ _ _ _ w4.drew
            clear hby
            refine wpAnyD_takeW (i := 0) (oi := { dst := some 86, op := Op.move (Operand.tmp 0), type := 61, pos := "ref.go:245", after := #[], guard := none }) (v := ?_) rfl (by kernel_rfl) (by kernel_rfl) (by kernel_rfl) (fun _ _ _ h => h) (Or.inl ⟨by rfl, ?_⟩) ?_
            rotate_left
            · intro w hSw
              clear hSw
              go_simp
              all_goals with_reducible rfl
            simp only [Act.put, List.setIfInBounds_toArray, List.set_cons_zero, List.set_cons_succ]
            refine wpAnyD_takeW (i := 1) (oi := { dst := some 87, op := Op.move (Operand.tmp 0), type := 61, pos := "ref.go:245", after := #[], guard := none }) (v := ?_) rfl (by kernel_rfl) (by kernel_rfl) (by kernel_rfl) (fun _ _ _ h => h) (Or.inl ⟨by rfl, ?_⟩) ?_
            rotate_left
            · intro w hSw
              clear hSw
              go_simp
              all_goals with_reducible rfl
            simp only [Act.put, List.setIfInBounds_toArray, List.set_cons_zero, List.set_cons_succ]
            refine wpAnyD_takeW (i := 2) (oi := { dst := some 88, op := Op.nilCheck (Operand.tmp 87), type := 0, pos := "ref.go:245", after := #[{ on := 1, ground := Ground.data }], guard := none }) (v := ?_) rfl (by kernel_rfl) (by kernel_rfl) (by kernel_rfl) (fun _ _ _ h => h) (Or.inl ⟨by rfl, ?_⟩) ?_
            rotate_left
            · intro w hSw
              clear hSw
              go_simp
              all_goals with_reducible rfl
            simp only [Act.put, List.setIfInBounds_toArray, List.set_cons_zero, List.set_cons_succ]
            refine wpAnyD_takeW (i := 3) (oi := { dst := some 89, op := Op.fieldAddr 84 (Operand.tmp 88) 0, type := 0, pos := "ref.go:245", after := #[{ on := 2, ground := Ground.data }], guard := none }) (v := ?_) rfl (by kernel_rfl) (by kernel_rfl) (by kernel_rfl) (fun _ _ _ h => h) (Or.inl ⟨by rfl, ?_⟩) ?_
            rotate_left
            · intro w hSw
              clear hSw
              go_simp
              all_goals with_reducible rfl
            simp only [Act.put, List.setIfInBounds_toArray, List.set_cons_zero, List.set_cons_succ]
            refine wpAnyD_take (i := 4) (oi := { dst := some 90, op := Op.load 82 (Operand.tmp 89), type := 82, pos := "ref.go:245", after := #[{ on := 3, ground := Ground.data }], guard := none }) (v := ?_) rfl (by kernel_rfl) (by kernel_rfl) (by kernel_rfl) (by kernel_rfl) (by kernel_rfl) (fun _ _ _ h => h) (Or.inl ⟨by rfl, ?_⟩) hS ?_
            rotate_left
            · intro w hSw
              have s0 := hSw
              go_simp
              all_goals with_reducible rfl
            simp only [Act.put, List.setIfInBounds_toArray, List.set_cons_zero, List.set_cons_succ]
            refine wpAnyD_takeW (i := 5) (oi := { dst := some 91, op := Op.move (Operand.tmp 0), type := 61, pos := "ref.go:245", after := #[], guard := none }) (v := ?_) rfl (by kernel_rfl) (by kernel_rfl) (by kernel_rfl) (fun _ _ _ h => h) (Or.inl ⟨by rfl, ?_⟩) ?_
            rotate_left
            · intro w hSw
              clear hSw
              go_simp
              all_goals with_reducible rfl
            simp only [Act.put, List.setIfInBounds_toArray, List.set_cons_zero, List.set_cons_succ]
            refine wpAnyD_takeW (i := 6) (oi := { dst := some 92, op := Op.nilCheck (Operand.tmp 91), type := 0, pos := "ref.go:245", after := #[{ on := 5, ground := Ground.data }], guard := none }) (v := ?_) rfl (by kernel_rfl) (by kernel_rfl) (by kernel_rfl) (fun _ _ _ h => h) (Or.inl ⟨by rfl, ?_⟩) ?_
            rotate_left
            · intro w hSw
              clear hSw
              go_simp
              all_goals with_reducible rfl
            simp only [Act.put, List.setIfInBounds_toArray, List.set_cons_zero, List.set_cons_succ]
            refine wpAnyD_takeW (i := 7) (oi := { dst := some 93, op := Op.fieldAddr 84 (Operand.tmp 92) 0, type := 0, pos := "ref.go:245", after := #[{ on := 6, ground := Ground.data }], guard := none }) (v := ?_) rfl (by kernel_rfl) (by kernel_rfl) (by kernel_rfl) (fun _ _ _ h => h) (Or.inl ⟨by rfl, ?_⟩) ?_
            rotate_left
            · intro w hSw
              clear hSw
              go_simp
              all_goals with_reducible rfl
            simp only [Act.put, List.setIfInBounds_toArray, List.set_cons_zero, List.set_cons_succ]
            refine wpAnyD_take (i := 8) (oi := { dst := some 94, op := Op.load 82 (Operand.tmp 93), type := 82, pos := "ref.go:245", after := #[{ on := 7, ground := Ground.data }], guard := none }) (v := ?_) rfl (by kernel_rfl) (by kernel_rfl) (by kernel_rfl) (by kernel_rfl) (by kernel_rfl) (fun _ _ _ h => h) (Or.inl ⟨by rfl, ?_⟩) hS ?_
            rotate_left
            · intro w hSw
              have s0 := hSw
              go_simp
              all_goals with_reducible rfl
            simp only [Act.put, List.setIfInBounds_toArray, List.set_cons_zero, List.set_cons_succ]
            refine wpAnyD_takeW (i := 9) (oi := { dst := some 95, op := Op.call { callee := Callee.builtin Builtin.len, args := #[Operand.tmp 94], argTypes := #[82] }, type := 3, pos := "ref.go:245", after := #[{ on := 8, ground := Ground.data }], guard := none }) (v := ?_) rfl (by kernel_rfl) (by kernel_rfl) (by kernel_rfl) (fun _ _ _ h => h) (Or.inl ⟨by rfl, ?_⟩) ?_
            rotate_left
            · intro w hSw
              clear hSw
              go_simp
              all_goals with_reducible rfl
            simp only [Act.put, List.setIfInBounds_toArray, List.set_cons_zero, List.set_cons_succ]
            refine wpAnyD_takeW (i := 10) (oi := { dst := some 96, op := Op.call { callee := Callee.builtin Builtin.min, args := #[Operand.tmp 95, Operand.const (Value.int IntKind.i64 65536)], argTypes := #[3, 3] }, type := 3, pos := "ref.go:245", after := #[{ on := 9, ground := Ground.data }], guard := none }) (v := ?_) rfl (by kernel_rfl) (by kernel_rfl) (by kernel_rfl) (fun _ _ _ h => h) (Or.inl ⟨by rfl, ?_⟩) ?_
            rotate_left
            · intro w hSw
              clear hSw
              go_simp
              all_goals with_reducible rfl
            simp only [Act.put, List.setIfInBounds_toArray, List.set_cons_zero, List.set_cons_succ]
            refine wpAnyD_takeW (i := 11) (oi := { dst := some 97, op := Op.slice 82 (Operand.tmp 90) none (some (Operand.tmp 96)) none, type := 82, pos := "ref.go:245", after := #[{ on := 4, ground := Ground.data }, { on := 10, ground := Ground.data }], guard := none }) (v := ?_) rfl (by kernel_rfl) (by kernel_rfl) (by kernel_rfl) (fun _ _ _ h => h) (Or.inl ⟨by rfl, ?_⟩) ?_
            rotate_left
            · intro w hSw
              clear hSw
              go_simp
              all_goals with_reducible rfl
            simp only [Act.put, List.setIfInBounds_toArray, List.set_cons_zero, List.set_cons_succ]
            clear hS
            have r0 := HBD.out.cell 0
            refine wpAnyD_takeW (i := 12) (oi := { dst := some 98, op := Op.nilCheck (Operand.tmp 86), type := 0, pos := "ref.go:245", after := #[{ on := 0, ground := Ground.data }, { on := 0, ground := Ground.phase }, { on := 1, ground := Ground.phase }, { on := 2, ground := Ground.phase }, { on := 3, ground := Ground.phase }, { on := 4, ground := Ground.phase }, { on := 5, ground := Ground.phase }, { on := 6, ground := Ground.phase }, { on := 7, ground := Ground.phase }, { on := 8, ground := Ground.phase }, { on := 9, ground := Ground.phase }, { on := 10, ground := Ground.phase }, { on := 11, ground := Ground.phase }], guard := none }) (v := ?_) rfl (by kernel_rfl) (by kernel_rfl) (by kernel_rfl) (fun _ _ _ h => h) (Or.inl ⟨by rfl, ?_⟩) ?_
            rotate_left
            · intro w hSw
              clear hSw
              go_simp
              all_goals with_reducible rfl
            simp only [Act.put, List.setIfInBounds_toArray, List.set_cons_zero, List.set_cons_succ]
            refine wpAnyD_takeW (i := 13) (oi := { dst := some 99, op := Op.fieldAddr 84 (Operand.tmp 98) 0, type := 0, pos := "ref.go:245", after := #[{ on := 12, ground := Ground.data }, { on := 0, ground := Ground.phase }, { on := 1, ground := Ground.phase }, { on := 2, ground := Ground.phase }, { on := 3, ground := Ground.phase }, { on := 4, ground := Ground.phase }, { on := 5, ground := Ground.phase }, { on := 6, ground := Ground.phase }, { on := 7, ground := Ground.phase }, { on := 8, ground := Ground.phase }, { on := 9, ground := Ground.phase }, { on := 10, ground := Ground.phase }, { on := 11, ground := Ground.phase }], guard := none }) (v := ?_) rfl (by kernel_rfl) (by kernel_rfl) (by kernel_rfl) (fun _ _ _ h => h) (Or.inl ⟨by rfl, ?_⟩) ?_
            rotate_left
            · intro w hSw
              clear hSw
              go_simp
              all_goals with_reducible rfl
            simp only [Act.put, List.setIfInBounds_toArray, List.set_cons_zero, List.set_cons_succ]
            refine wpAnyD_one (i := 14) (o := { dst := none, op := Op.store 82 (Operand.tmp 99) (Operand.tmp 97), type := 0, pos := "ref.go:245", after := #[{ on := 13, ground := Ground.data }, { on := 11, ground := Ground.data }, { on := 0, ground := Ground.phase }, { on := 1, ground := Ground.phase }, { on := 2, ground := Ground.phase }, { on := 3, ground := Ground.phase }, { on := 4, ground := Ground.phase }, { on := 5, ground := Ground.phase }, { on := 6, ground := Ground.phase }, { on := 7, ground := Ground.phase }, { on := 8, ground := Ground.phase }, { on := 9, ground := Ground.phase }, { on := 10, ground := Ground.phase }, { on := 11, ground := Ground.phase }], guard := none }) (by kernel_rfl) rfl (fun K hK => ?_)
            go_simp
            refine hK _ _ (fun h => by cases h) ?_
            clear hK K
            try simp only [Act.put, List.setIfInBounds_toArray, List.set_cons_zero, List.set_cons_succ]
            refine wpAnyD_done (by kernel_rfl) ?_ _
            go_wp2_with fail
            go_ret
            rw [HEE.out.1, HEE.out.2]
            have HCT := hide (HLD.out.cut HLQ.out.symm HM7.out)
            refine ⟨rfl, ⟨_, ROb.store (R' := (R.take a0 ++ noneL j ++ R.drop a0).take m6) H.out (show Below W.heap.size W w4.drew from HBL4.out.drew) ⟨_, HBD.out⟩ HCT.out ?_ (fun x hx => ?_) (fun i hi => Nat.le_trans H.out.bel.size (HN3.out.own i hi)) rfl, ?_⟩, (show KeepT isRef w w4.drew from HKP4.out.trans (KeepT.of_below (Below.refl _ _).drew)).trans (keep_store HBD.out)⟩
            · have := HM6.out
              rw [List.length_take]
              omega
            · have hx2 := List.mem_of_mem_take hx
              rcases List.mem_append.1 hx2 with hx2 | hx2
              · rcases List.mem_append.1 hx2 with hx2 | hx2
                · exact HR.out.fit x (List.mem_of_mem_take hx2)
                · rw [List.eq_of_mem_replicate hx2]
                  exact Nat.zero_le _
              · exact HR.out.fit x (List.mem_of_mem_drop hx2)
            · have hlk := HINS.out (by have := HLEN.out; have := HKN.out; have := HA0.out; omega) (fun i k1 k2 => HZZ.out (i + 1) k1 k2)
              have e : lsts ((R.take a0 ++ noneL j ++ R.drop a0).take m6) = ((L.take (a - 1) ++ List.replicate j [] ++ L.drop (a - 1)).take 65536) := by
                have e0 : a - 1 = a0 := by have := HA0.out; omega
                have e1 : (R.take a0 ++ noneL j ++ R.drop a0).take m6 = (R.take a0 ++ noneL j ++ R.drop a0).take 65536 := by
                  have e2 := HLQ.out
                  have e3 := HM6.out
                  generalize R.take a0 ++ noneL j ++ R.drop a0 = Q at e2
                  by_cases c : N6 ≤ 65536
                  · rw [List.take_of_length_le (i := m6) (by omega), List.take_of_length_le (i := 65536) (by omega)]
                  · rw [show m6 = 65536 by omega]
                rw [e1, e0, ← HRL.out]
                unfold lsts noneL
                rw [List.map_take, List.map_append, List.map_append, List.map_take, List.map_drop, List.map_replicate]
              rw [e]
              exact hlk
theorem rInserted_any (h : ROb W w rb L) (hl : Like L P) (hg : Good P 64) (at_ n : Int) : Calls Try.prog 66 #[.pointer (some ⟨rb, 0, none⟩), .int .i64 at_, .int .i64 n] w (RRes W w rb (insQ P at_ n) (.int .i64 (insE P at_ n))) := by
  have HSAME := hide (fun (y : World) (hb : Below w.heap.size w y) => RRes.same h hl hb)
  by_cases ha : at_ < 1 ∨ 65537 < at_
  · have e1 : insE P at_ n = 3 := if_pos ha
    have e2 : insQ P at_ n = P := if_neg (by rw [e1]; decide)
    rw [e1, e2]
    clear h hl hg e1 e2
    rcases ha with ha | ha
    · have z1 : decide (at_ < 1) = true := by simpa using ha
      clear ha
      go_enter Try.func66, Try.ntmps66
      go_wp2_with fail
      go_ret
      exact ⟨rfl, HSAME.out _ (Below.refl _ _)⟩
    · have z1 : decide (at_ < 1) = false := by simp; omega
      have z2 : decide (65537 < at_) = true := by simpa using ha
      have z3 : ¬ at_ < 1 := by omega
      clear ha
      go_enter Try.func66, Try.ntmps66
      go_wp2_with fail
      go_ret
      exact ⟨rfl, HSAME.out _ (Below.refl _ _)⟩
  · by_cases hn : n < 0 ∨ 65536 < n
    · have e1 : insE P at_ n = 2 := by
        unfold insE
        rw [if_neg ha, if_pos hn]
      have e2 : insQ P at_ n = P := if_neg (by rw [e1]; decide)
      rw [e1, e2]
      have z1 : decide (at_ < 1) = false := by simp; omega
      have z2 : decide (65537 < at_) = false := by simp; omega
      have z3 : ¬ at_ < 1 := by omega
      have z4 : ¬ 65537 < at_ := by omega
      clear h hl hg e1 e2 ha
      rcases hn with hn | hn
      · have z5 : decide (n < 0) = true := by simpa using hn
        clear hn
        go_enter Try.func66, Try.ntmps66
        go_wp2_with fail
        go_ret
        exact ⟨rfl, HSAME.out _ (Below.refl _ _)⟩
      · have z5 : decide (n < 0) = false := by simp; omega
        have z6 : decide (65536 < n) = true := by simpa using hn
        have z7 : ¬ n < 0 := by omega
        clear hn
        go_enter Try.func66, Try.ntmps66
        go_wp2_with fail
        go_ret
        exact ⟨rfl, HSAME.out _ (Below.refl _ _)⟩
    · obtain ⟨a, rfl⟩ : ∃ y : Nat, at_ = (y : Int) := ⟨at_.toNat, by omega⟩
      obtain ⟨m, rfl⟩ : ∃ y : Nat, n = (y : Int) := ⟨n.toNat, by omega⟩
      exact rIns_code h hl hg (by omega) (by omega) (by omega)
end
end Go.Proofs.Ytgiogmbopiblmaa
namespace Go.Proofs.Ytgiogmbopiblmaa
open Go.RowKit

section
variable {W w : World} {rb : Nat} {L : List (List Pr)} {P : List Pc}
theorem RRes.after {w1 w' : World} {r : Value} {e : Ending} {Q : List Pc} (h : RRes W w1 rb Q r e w') (hb : Below w.heap.size w w1) : RRes W w rb Q r e w' := ⟨h.1, h.2.1, (KeepT.of_below hb).trans h.2.2⟩
set_option maxRecDepth 100000 in
set_option maxHeartbeats 32000000 in
theorem rdo_any (h0 : ROb W w rb L) (hl : Like L P) (hg : Good P 64) (a : Ac) (ha : ActOk w a) :
    Calls Try.prog 33 #[.pointer (some ⟨rb, 0, none⟩), .agg #[.int .i64 a.kd, .int .i64 a.fr, .int .i64 a.en, .int .i64 a.nm, .int .i64 a.n, .int .i64 a.k, .int .i64 a.v, a.sv]] w (RRes W w rb (doQ P a) (.int .i64 (doE P a))) := by
  obtain ⟨AS, cS, hsv, _⟩ := id ha.rd.row
  have hbx0 := below_box w (.cells #[.int .i64 a.kd, .int .i64 a.fr, .int .i64 a.en, .int .i64 a.nm, .int .i64 a.n, .int .i64 a.k, .int .i64 a.v, a.sv] 49)
  have HBX := hide hbx0
  have HBK := hide (Blk.new w 49 #[.int .i64 a.kd, .int .i64 a.fr, .int .i64 a.en, .int .i64 a.nm, .int .i64 a.n, .int .i64 a.k, .int .i64 a.v, a.sv])
  have h := h0.below hbx0
  have ha1 := ha.below hbx0
  rw [hsv] at HBX HBK h ha1 ⊢
  have harow := ha1.rd
  rw [hsv] at harow
  have ha1 : ActOk _ a := ha1
  have HPK := hide (fun w => pick_any a.kd 8 w (by omega) (by omega))
  have hr := pickZ_range a.kd (k := 8) (by omega)
  have k0 := HBK.out.cell 0
  have k1 := HBK.out.cell 1
  have k2 := HBK.out.cell 2
  have k3 := HBK.out.cell 3
  have k4 := HBK.out.cell 4
  have k5 := HBK.out.cell 5
  have k6 := HBK.out.cell 6
  have k7 := HBK.out.cell 7
  have hk : pickZ a.kd 8 = 0 ∨ pickZ a.kd 8 = 1 ∨ pickZ a.kd 8 = 2 ∨ pickZ a.kd 8 = 3 ∨ pickZ a.kd 8 = 4 ∨ pickZ a.kd 8 = 5 ∨ pickZ a.kd 8 = 6 ∨ pickZ a.kd 8 = 7 := by omega
  clear hr hbx0 h0 ha
  rcases hk with hk | hk | hk | hk | hk | hk | hk | hk
  · -- kind 0
    rw [hk] at HPK
    have hq := doQ_0 P a hk
    have he := doE_0 P a hk
    rw [hq, he]
    have HM := hide (rPut_any h hl hg a.fr a.en a.nm a.k a.v)
    clear hk hq he h hg hl ha1 harow hsv
    go_enter Try.func33, Try.ntmps33
    go_wp2_with (first | (go_at_call 11; (with_reducible refine Calls.mono (HPK.out _) ?_); rintro r w2 ⟨rfl, rfl⟩) | (go_at_call 64; (with_reducible refine Calls.mono HM.out ?_); rintro r w3 ⟨rfl, hm⟩; have HR := hide hm; clear hm))
    go_ret
    exact RRes.after ⟨rfl, HR.out⟩ HBX.out
  · -- kind 1
    rw [hk] at HPK
    have hq := doQ_1 P a hk
    have he := doE_1 P a hk
    rw [hq, he]
    have HM := hide (rPut_any h hl hg a.fr a.en a.nm a.k a.v)
    clear hk hq he h hg hl ha1 harow hsv
    go_enter Try.func33, Try.ntmps33
    go_wp2_with (first | (go_at_call 11; (with_reducible refine Calls.mono (HPK.out _) ?_); rintro r w2 ⟨rfl, rfl⟩) | (go_at_call 64; (with_reducible refine Calls.mono HM.out ?_); rintro r w3 ⟨rfl, hm⟩; have HR := hide hm; clear hm))
    go_ret
    exact RRes.after ⟨rfl, HR.out⟩ HBX.out
  · -- kind 2
    rw [hk] at HPK
    have hq := doQ_2 P a hk
    have he := doE_2 P a hk
    rw [hq, he]
    have HM := hide (rTake_any h hl hg a.fr a.en a.nm)
    clear hk hq he h hg hl ha1 harow hsv
    go_enter Try.func33, Try.ntmps33
    go_wp2_with (first | (go_at_call 11; (with_reducible refine Calls.mono (HPK.out _) ?_); rintro r w2 ⟨rfl, rfl⟩) | (go_at_call 65; (with_reducible refine Calls.mono HM.out ?_); rintro r w3 ⟨rfl, hm⟩; have HR := hide hm; clear hm))
    go_ret
    exact RRes.after ⟨rfl, HR.out⟩ HBX.out
  · -- kind 3
    rw [hk] at HPK
    have hq := doQ_3 P a hk
    have he := doE_3 P a hk
    rw [hq, he]
    have HM := hide (rInserted_any h hl hg a.fr a.n)
    clear hk hq he h hg hl ha1 harow hsv
    go_enter Try.func33, Try.ntmps33
    go_wp2_with (first | (go_at_call 11; (with_reducible refine Calls.mono (HPK.out _) ?_); rintro r w2 ⟨rfl, rfl⟩) | (go_at_call 66; (with_reducible refine Calls.mono HM.out ?_); rintro r w3 ⟨rfl, hm⟩; have HR := hide hm; clear hm))
    go_ret
    exact RRes.after ⟨rfl, HR.out⟩ HBX.out
  · -- kind 4
    rw [hk] at HPK
    have hq := doQ_4 P a hk
    have he := doE_4 P a hk
    rw [hq, he]
    have HM := hide (rDeleted_any h hl hg a.fr a.en)
    clear hk hq he h hg hl ha1 harow hsv
    go_enter Try.func33, Try.ntmps33
    go_wp2_with (first | (go_at_call 11; (with_reducible refine Calls.mono (HPK.out _) ?_); rintro r w2 ⟨rfl, rfl⟩) | (go_at_call 67; (with_reducible refine Calls.mono HM.out ?_); rintro r w3 ⟨rfl, hm⟩; have HR := hide hm; clear hm))
    go_ret
    exact RRes.after ⟨rfl, HR.out⟩ HBX.out
  · -- kind 5
    rw [hk] at HPK
    have hq := doQ_5 P a hk
    have he := doE_5 P a hk
    rw [hq, he]
    have HM := hide (rDeleted_any h hl hg a.fr a.en)
    clear hk hq he h hg hl ha1 harow hsv
    go_enter Try.func33, Try.ntmps33
    go_wp2_with (first | (go_at_call 11; (with_reducible refine Calls.mono (HPK.out _) ?_); rintro r w2 ⟨rfl, rfl⟩) | (go_at_call 67; (with_reducible refine Calls.mono HM.out ?_); rintro r w3 ⟨rfl, hm⟩; have HR := hide hm; clear hm))
    go_ret
    exact RRes.after ⟨rfl, HR.out⟩ HBX.out
  · -- kind 6
    rw [hk] at HPK
    have hq := doQ_6 P a hk
    have he := doE_6 P a hk
    rw [hq, he]
    have HM := hide (rPaste_any (D := 700) h hl hg (.slice AS a.S.length cS) a.S harow a.fr (fun z => ha1.cov a.fr z) (by omega) (by have := ha1.len; omega) (fun s hs => Nat.le_trans (ha1.pr s hs) (by omega)))
    clear hk hq he h hg hl ha1 harow hsv
    go_enter Try.func33, Try.ntmps33
    go_wp2_with (first | (go_at_call 11; (with_reducible refine Calls.mono (HPK.out _) ?_); rintro r w2 ⟨rfl, rfl⟩) | (go_at_call 68; (with_reducible refine Calls.mono HM.out ?_); rintro r w3 ⟨rfl, hm⟩; have HR := hide hm; clear hm))
    go_ret
    exact RRes.after ⟨rfl, HR.out⟩ HBX.out
  · -- kind 7
    rw [hk] at HPK
    have hq := doQ_7 P a hk
    have he := doE_7 P a hk
    rw [hq, he]
    have HKC := hide (fun (x : World) (hb : Blk x w.heap.size 49 #[.int .i64 a.kd, .int .i64 a.fr, .int .i64 a.en, .int .i64 a.nm, .int .i64 a.n, .int .i64 a.k, .int .i64 a.v, .slice AS a.S.length cS]) => (show x.cell? ⟨w.heap.size, 1, none⟩ = some (.int .i64 a.fr) ∧ x.cell? ⟨w.heap.size, 2, none⟩ = some (.int .i64 a.en) ∧ x.cell? ⟨w.heap.size, 4, none⟩ = some (.int .i64 a.n) from ⟨hb.cell 1, hb.cell 2, hb.cell 4⟩))
    have hd := h.below (Below.refl _ _).drew
    obtain ⟨v0, R0, hr0, hrl0, _⟩ := hd.ex
    have HCU := hide (rCut_any hr0 (by rw [hrl0]; exact hl) hg (by omega) a.fr a.en)
    have HPA := hide (fun (x : World) (v : Value) (S2 : List (Sn × Value)) (hb : OutS (w.alloc (.cells #[.int .i64 a.kd, .int .i64 a.fr, .int .i64 a.en, .int .i64 a.nm, .int .i64 a.n, .int .i64 a.k, .int .i64 a.v, .slice AS a.S.length cS] 49)).drew x v S2) (e : sns S2 = cutS P a.fr a.en) => (show Calls Try.prog 68 #[.pointer (some ⟨rb, 0, none⟩), .int .i64 a.n, v] x (RRes W x rb (pasteQ P a.n (cutS P a.fr a.en)) (.int .i64 (pasteE P a.n (cutS P a.fr a.en)))) from by
      have hl2 : S2.length ≤ 65537 := by rw [← sns_len, e]; exact cut_len hg _ _ _
      have := rPaste_any (D := 64) (hd.below hb.bel) hl hg v S2 hb.inn.rd a.n (fun z => by rw [e]; exact cov_cut hg a.n a.fr a.en z) (by omega) (by omega) (fun s hs => by
        have h1 : s.1 ∈ sns S2 := List.mem_map_of_mem hs
        rw [e] at h1
        have := cut_pr hg _ _ _ s.1 h1
        omega)
      rw [e] at this
      exact this))
    clear hk hq he h hg hl ha1 harow hsv hd hr0 hrl0
    go_enter Try.func33, Try.ntmps33
    go_upto_region 14 with (go_at_call 11; (with_reducible refine Calls.mono (HPK.out _) ?_); rintro r w2 ⟨rfl, rfl⟩)
    have B11 := hide HBK.out.drew
    go_region_held3 (fun x => x.cell? ⟨w.heap.size, 1, none⟩ = some (.int .i64 a.fr) ∧ x.cell? ⟨w.heap.size, 2, none⟩ = some (.int .i64 a.en) ∧ x.cell? ⟨w.heap.size, 4, none⟩ = some (.int .i64 a.n))
      (first | exact HKC.out _ B11.out | exact HKC.out _ B12.out | exact HKC.out _ B13.out)
      ((first
        | (go_at_call 38; (with_reducible refine Calls.mono HCU.out ?_); rintro r w12 ⟨v12, S12, rfl, h12, e12⟩; have B12 := hide (B11.out.below h12.bel B11.out.lt); have H12 := hide h12; have E12 := hide e12; obtain ⟨A12, c12, rfl, _⟩ := h12.inn.row.form; clear h12 e12)
        | (go_at_call 68; (with_reducible refine Calls.mono (HPA.out _ _ _ H12.out E12.out) ?_); rintro r w13 ⟨rfl, h13⟩; have HR := hide h13; have B13 := hide (h13.2.toBlk B12.out (by unfold isRef; decide)); clear h13)))
    all_goals go_wp2
    all_goals (go_ret; exact RRes.after ⟨rfl, HR.out⟩ ((HBX.out.drew).trans (H12.out.bel.mono HBX.out.drew.size)))
end
end Go.Proofs.Ytgiogmbopiblmaa
