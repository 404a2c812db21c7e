/- slices.DeleteFunc at properties; a list without a name; the closures of Put, Take, Paste. No condition but those written. -/
import Derived.Test.YtgiogmbopiblmaaPpu
namespace Go.Proofs.Ytgiogmbopiblmaa
open Go.RowKit

theorem Sl.put3 {w : World} {g off N c i : Nat} {l' : List Pr} {q : Pr} (h : Sl w 36 3 (.slice (some ⟨g, off, none⟩) N c) N (rows prC l')) (hq : l'[i]? = some q) (y : Pr) : Sl (((w.setCell ⟨g, off + i * 3, none⟩ (.int .i64 y.1)).setCell ⟨g, off + i * 3 + 1, none⟩ (.int .i64 y.2.1)).setCell ⟨g, off + i * 3 + 2, none⟩ (.int .i64 y.2.2)) 36 3 (.slice (some ⟨g, off, none⟩) N c) N (rows prC (l'.set i y)) := by
  have hi := (List.getElem?_eq_some_iff.1 hq).1
  have e1 := rows_set prC_len (y.1, q.2) 0 (.int .i64 y.1) l' i q hq (by omega) rfl
  have e2 := rows_set prC_len (y.1, y.2.1, q.2.2) 1 (.int .i64 y.2.1) (l'.set i (y.1, q.2)) i (y.1, q.2) (List.getElem?_set_self hi) (by omega) rfl
  have e3 := rows_set prC_len y 2 (.int .i64 y.2.2) ((l'.set i (y.1, q.2)).set i (y.1, y.2.1, q.2.2)) i (y.1, y.2.1, q.2.2) (List.getElem?_set_self (by simpa using hi)) (by omega) rfl
  have h1 := h.set (i * 3 + 0) (by rw [rows_len prC_len]; omega) (.int .i64 y.1)
  rw [e1] at h1
  have h2 := h1.set (i * 3 + 1) (by rw [rows_len prC_len, List.length_set]; omega) (.int .i64 y.2.1)
  rw [e2] at h2
  have h3 := h2.set (i * 3 + 2) (by rw [rows_len prC_len, List.length_set, List.length_set]; omega) (.int .i64 y.2.2)
  rw [e3, List.set_set, List.set_set] at h3
  exact h3
section
variable {w : World} {v : Value} {l : List Pr} {nb : Nat} {n : Int}
set_option maxRecDepth 100000 in
set_option maxHeartbeats 8000000 in
theorem delete_any (h : PrS w v l) (hb : Blk w nb 3 #[.int .i64 n]) (hl : l.length ≤ 1000000) :
    Calls Try.prog 77 #[v, .func (.func 78) #[] #[.pointer (some ⟨nb, 0, none⟩)]] w fun e w' => ∃ v', e = .returned v' ∧ PrS w' v' (withoutP l n) ∧ Only (fun b => v.ownBlock = some b) w w' := by
  have HIX := hide (idx_any h hb hl)
  obtain ⟨A, c, rfl, hlc, hcm⟩ := Sl.form h
  unfold maxLen at hcm
  obtain ⟨N, hn0⟩ : ∃ N, N = l.length := ⟨_, rfl⟩
  have H := hide h
  rw [← hn0] at HIX hlc ⊢
  have hl2 : (N : Int) ≤ 1000000 := by omega
  have HN0 := hide hn0
  have HB0 := hide hb
  have hF : (¬ ∃ y ∈ l, y.1 = n) → withoutP l n = l := fun h => List.filter_eq_self.2 fun y hy => by simpa using fun e => h ⟨y, hy, e⟩
  have HF := hide hF
  clear h hb hF hn0 hl
  go_enter Try.func77, Try.ntmps77
  go_wp2_with fail
  (with_reducible refine Calls.mono HIX.out ?_)
  rintro r w2 ⟨b, rfl, hix, hb2⟩
  have HB2 := hide hb2
  rcases hix with ⟨rfl, hno⟩ | ⟨k, x, rfl, hx, he, hbef⟩
  · have HR := hide (show PrS w2 (.slice A N c) (withoutP l n) from by
      rw [HF.out fun ⟨y, hy, e⟩ => hno y hy e, HN0.out]
      exact PrS.below H.out hb2)
    clear hno hb2 HIX
    go_wp2
    go_ret
    exact ⟨_, rfl, HR.out, Only.of_below HB2.out⟩
  · have hkn := (List.getElem?_eq_some_iff.1 hx).1
    obtain ⟨g, off, rfl⟩ : ∃ g off, A = some ⟨g, off, none⟩ := by
      obtain ⟨g, off, e, _⟩ := PrS.at_ (A := A) (c := c) (N := N) (by have := Sl.rd H.out; rw [← HN0.out] at this; exact this) HN0.out hx
      exact ⟨g, off, e⟩
    rw [← HN0.out] at hkn
    have hk2 : (k : Int) ≤ 1000000 := by omega
    have z0 : ((k : Int) == -1) = false := by simp
    have z00 : ¬ (k : Int) = -1 := by omega
    have HS := hide (DelAt.start hx he hbef)
    have HW2 := hide (show Sl w2 36 3 (.slice (some ⟨g, off, none⟩) N c) N (rows prC l) from by
      have := PrS.below H.out hb2
      unfold PrS at this
      rw [← HN0.out] at this
      exact this)
    have hne : g ≠ nb := fun e => Sl.ne_blk (HW2.out) (HB0.out.below hb2 HB0.out.lt) (by decide) (by rw [e]; rfl)
    have HNE := hide hne
    have HKN := hide hkn
    clear hx he hbef hb2 hkn hne HIX
    go_wp2_with fail
    go_loopw [5, 6] (fun iv jv wr => ∃ (i j : Nat) (l' : List Pr), iv = .int .i64 (i : Int) ∧ jv = .int .i64 (j : Int) ∧ j ≤ N ∧ DelAt l l' n i j ∧ Sl wr 36 3 (.slice (some ⟨g, off, none⟩) N c) N (rows prC l') ∧ Only (fun b => b = g) w wr) (fun _ jv _ => N - (intOf jv).toNat)
    case atStart => exact ⟨k, k + 1, l, rfl, by go_num, HKN.out, HS.out, HW2.out, Only.of_below HB2.out⟩
    case round =>
      obtain ⟨i, j, l', rfl, rfl, hjn, hd, hs, ho⟩ := hrel
      have HD := hide hd
      have HSL := hide hs
      have HO := hide ho
      have hijd := hd.lt
      have hl'n : N = l'.length := by rw [hd.len]; exact HN0.out
      by_cases hlt : j < N
      · have z1 : decide ((j : Int) < (N : Int)) = true := by simp; omega
        have z2 : (j : Int) < (N : Int) := by omega
        have z3 : decide (j < N) = true := by simpa using hlt
        have z4 : (i : Int) < (N : Int) := by omega
        have z5 : decide ((i : Int) < (N : Int)) = true := by simp; omega
        obtain ⟨y, hy⟩ : ∃ y, l'[j]? = some y := ⟨_, List.getElem?_eq_getElem (by omega)⟩
        have hyl : l[j]? = some y := hd.get ▸ hy
        obtain ⟨q, hq⟩ : ∃ q, l'[i]? = some q := ⟨_, List.getElem?_eq_getElem (by omega)⟩
        obtain ⟨g2, o2, e2, p0, p1, p2⟩ := PrS.at_ (Sl.rd hs) hl'n hy
        injection e2 with e2
        injection e2 with e3 e4
        subst e3 e4
        have HLT := hide hlt
        have HLE := hide (show j + 1 ≤ N from hlt)
        have HYL := hide hyl
        have HB1 := hide (HB0.out.only ho fun e => HNE.out e.symm)
        have hbx := below_box wr (.cells #[.int .i64 y.1, .int .i64 y.2.1, .int .i64 y.2.2] 36)
        have HBX := hide hbx
        have HC := hide (without1_any y n nb _ (HB1.out.below hbx HB1.out.lt))
        have HBK := hide (Blk.new wr 36 #[.int .i64 y.1, .int .i64 y.2.1, .int .i64 y.2.2])
        have HIJ := hide hq
        clear hd hs ho hjn hy hyl hlt hbx hl'n hijd
        by_cases he : y.1 = n
        · rw [decide_eq_true he] at HC
          have HE := hide he
          clear he
          go_wp2_with (go_at_call 78; (with_reducible refine Calls.mono HC.out ?_); rintro r w4 ⟨rfl, hb4⟩; have HB4 := hide (HBX.out.trans (hb4.mono HBX.out.size)); clear hb4)
          go_roundw
          case rel => exact ⟨i, j + 1, l', rfl, by go_num, HLE.out, HD.out.skip HYL.out HE.out, HSL.out.only (Only.of_below (F := fun _ => False) HB4.out) fun _ _ f => f, HO.out.then_below HB4.out⟩
          case measure => have := HLT.out; simp [intOf]; omega
        · rw [decide_eq_false he] at HC
          have HE := hide he
          clear he
          go_wp2_with (go_at_call 78; (with_reducible refine Calls.mono HC.out ?_); rintro r w4 ⟨rfl, hb4⟩; have k4 := HBK.out.below hb4 HBK.out.lt; have d0 := k4.cell 0; have d1 := k4.cell 1; have d2 := k4.cell 2; have HB4 := hide (HBX.out.trans (hb4.mono HBX.out.size)); have HS4 := hide (HSL.out.only (Only.of_below (F := fun _ => False) HB4.out) fun _ _ f => f); obtain ⟨_, _, e6, q0, q1, q2⟩ := PrS.at_ (Sl.rd HS4.out) (by rw [HD.out.len]; exact HN0.out) hq; injection e6 with e6; injection e6 with e7 e8; subst e7 e8; obtain ⟨cs6, hg6, _⟩ := HS4.out.blkAt; have ff := fun a => frozen_blk hg6 a; clear hb4 k4 hg6)
          exact ⟨⟨i + 1, j + 1, l'.set i y, by go_num, by go_num, HLE.out, HD.out.keep HYL.out HE.out, HS4.out.put3 HIJ.out y, (((HO.out.then_below HB4.out).setCell (p := ⟨g, off + i * 3, none⟩) (.inl rfl) _).setCell (p := ⟨g, off + i * 3 + 1, none⟩) (.inl rfl) _).setCell (p := ⟨g, off + i * 3 + 2, none⟩) (.inl rfl) _⟩, by have := HLT.out; simp [intOf]; omega⟩
      · obtain rfl : j = N := by omega
        have z1 : decide ((j : Int) < (j : Int)) = false := by simp
        have z4 : (i : Int) ≤ (j : Int) := by omega
        have z5 : ¬ c = i := by omega
        have z6 : ¬ i = c := by omega
        have hcl0 : (j : Int) ≤ (c : Int) := by omega
        have z7 : (i : Int) ≤ (c : Int) := by omega
        obtain ⟨w5, hcl, ⟨qs, hql, hs5⟩, ho5⟩ := run_clear_slk (P := Try.prog) (k := 3) (m := j - i) 32 36 0 (.agg #[.int .i64 0, .int .i64 0, .int .i64 0]) Try.underlying32 zero_pr rfl (zeroCells_one pr_one _) hs i (c - i) (some ⟨g, off + i * 3, none⟩) (by omega) (fun _ => rfl)
        have hcl2 : ∀ ty, (Builtin.clear_ #[32] ty #[.slice (some ⟨g, off + i * 3, none⟩) (j - i) (c - i)]).run Try.prog wr = .ok (.tuple #[]) w5 := fun _ => hcl
        have HE := hide (show PrS w5 (.slice (some ⟨g, off, none⟩) i c) (withoutP l n) from by
          have e := hd.front
          rw [List.take_of_length_le (show l.length ≤ j by rw [HN0.out]; exact Nat.le_refl _)] at e
          have h4 := Sl.cut hs5 (m := i) (by omega)
          rw [splice_take_lo _ (by rw [rows_len prC_len, hd.len, ← HN0.out]; omega), rows_take prC_len, e] at h4
          have hlen : (withoutP l n).length = i := by rw [← e, List.length_take, hd.len, ← HN0.out]; omega
          unfold PrS
          rw [hlen]
          exact h4)
        have HOO := hide (show Only (fun b => (Value.slice (some ⟨g, off, none⟩) j c).ownBlock = some b) w w5 from (ho.trans ho5).mono fun b _ e => by subst e; rfl)
        clear hd hs ho hjn hlt hl'n hijd hcl hs5 ho5 hql
        go_wp2
        go_ret
        exact ⟨_, rfl, HE.out, HOO.out⟩
set_option maxRecDepth 100000 in
set_option maxHeartbeats 4000000 in
theorem without_any (h : PrS w v l) (n : Int) (hl : l.length ≤ 1000000) :
    Calls Try.prog 62 #[v, .int .i64 n] w fun e w' => ∃ v', e = .returned v' ∧ PrS w' v' (withoutP l n) ∧ Below w.heap.size w w' := by
  have hbx := below_box w (.cells #[.int .i64 n] 3)
  have h1 := h.below hbx
  have HCL := hide (clone_props v l.length (rows prC l) (w.alloc (.cells #[.int .i64 n] 3)) (Sl.rd h1) (rows_prone l) hl)
  have HBX := hide hbx
  have HBK := hide (Blk.new w 3 #[.int .i64 n])
  have HDE := hide (fun (w2 : World) (v2 : Value) (h2 : PrS w2 v2 l) (hb : Below (w.alloc (.cells #[.int .i64 n] 3)).heap.size (w.alloc (.cells #[.int .i64 n] 3)) w2) => delete_any h2 (HBK.out.below hb HBK.out.lt) hl)
  obtain ⟨A, c, rfl, _, _⟩ := Sl.form h
  clear h h1 hbx hl
  go_enter Try.func62, Try.ntmps62
  go_wp2_with (first | (go_at_call 50; (with_reducible refine Calls.mono HCL.out ?_); rintro r w2 ⟨v2, rfl, s2, o2, b2⟩; obtain ⟨A2, c2, rfl, _, _⟩ := s2.form; have HB2 := hide (HBX.out.trans (b2.mono HBX.out.size)); have HO2 := hide (show ∀ g, (Value.slice A2 l.length c2).ownBlock = some g → w.heap.size ≤ g from fun g hg => Nat.le_trans HBX.out.size (o2 g hg)); have HD := hide (HDE.out _ _ s2 b2); clear s2 o2 b2) | (go_at_call 77; (with_reducible refine Calls.mono HD.out ?_); rintro r w3 ⟨v3, rfl, h3, o3⟩; have HB3 := hide (HB2.out.trans (o3.below HB2.out.size fun g hg => HO2.out g hg)); have H3 := hide h3; obtain ⟨A3, c3, rfl, _, _⟩ := Sl.form h3; clear h3 o3))
  go_ret
  exact ⟨_, rfl, H3.out, HB3.out⟩
end
/-! ### The closures -/
section
variable {w : World}
theorem fn_put {nb vb : Nat} {x : Pr} (hn : Blk w nb 3 #[.int .i64 x.1]) (hv : Blk w vb 29 #[.int .i64 x.2.1, .int .i64 x.2.2]) {N : Nat} (hN : N ≤ 100000) : FnOk w 46 #[.pointer (some ⟨nb, 0, none⟩), .pointer (some ⟨vb, 0, none⟩)] (fun q => withP q x) N (N + 1) := by
  refine ⟨fun args w => Try.call46 args w, fun w' v q hb hq hl => ?_, fun q hq => Nat.le_trans (withP_len x q).2 (Nat.succ_le_succ hq)⟩
  have c0 := (hn.below hb hn.lt).cell 0
  have d0 := (hv.below hb hv.lt).cell 0
  have d1 := (hv.below hb hv.lt).cell 1
  have HW := hide (with_any x hq (by omega))
  obtain ⟨A, c, rfl, _, _⟩ := Sl.form hq
  clear hn hv hb hq hl
  show Calls Try.prog 46 #[.slice A q.length c, .pointer (some ⟨nb, 0, none⟩), .pointer (some ⟨vb, 0, none⟩)] w' _
  go_enter Try.func46, Try.ntmps46
  go_wp2_with (go_at_call 47; (with_reducible refine Calls.mono HW.out ?_); rintro r w2 ⟨v2, rfl, h2, _, b2⟩; have H2 := hide h2; have B2 := hide b2; obtain ⟨A2, c2, rfl, _, _⟩ := Sl.form h2; clear h2 b2)
  go_ret
  exact ⟨_, rfl, H2.out, B2.out⟩
theorem fn_paste {xb : Nat} {x : Pr} (hx : Blk w xb 36 #[.int .i64 x.1, .int .i64 x.2.1, .int .i64 x.2.2]) {N : Nat} (hN : N ≤ 100000) : FnOk w 54 #[.pointer (some ⟨xb, 0, none⟩)] (fun q => withP q x) N (N + 1) := by
  refine ⟨fun args w => Try.call54 args w, fun w' v q hb hq hl => ?_, fun q hq => Nat.le_trans (withP_len x q).2 (Nat.succ_le_succ hq)⟩
  have d0 := (hx.below hb hx.lt).cell 0
  have d1 := (hx.below hb hx.lt).cell 1
  have d2 := (hx.below hb hx.lt).cell 2
  have HW := hide (with_any x hq (by omega))
  obtain ⟨A, c, rfl, _, _⟩ := Sl.form hq
  clear hx hb hq hl
  show Calls Try.prog 54 #[.slice A q.length c, .pointer (some ⟨xb, 0, none⟩)] w' _
  go_enter Try.func54, Try.ntmps54
  go_wp2_with (go_at_call 47; (with_reducible refine Calls.mono HW.out ?_); rintro r w2 ⟨v2, rfl, h2, _, b2⟩; have H2 := hide h2; have B2 := hide b2; obtain ⟨A2, c2, rfl, _, _⟩ := Sl.form h2; clear h2 b2)
  go_ret
  exact ⟨_, rfl, H2.out, B2.out⟩
theorem fn_take {nb : Nat} {n : Int} (hn : Blk w nb 3 #[.int .i64 n]) {N : Nat} (hN : N ≤ 100000) : FnOk w 61 #[.pointer (some ⟨nb, 0, none⟩)] (fun q => withoutP q n) N N := by
  refine ⟨fun args w => Try.call61 args w, fun w' v q hb hq hl => ?_, fun q hq => Nat.le_trans (List.length_filter_le _ _) hq⟩
  have c0 := (hn.below hb hn.lt).cell 0
  have HW := hide (without_any hq n (by omega))
  obtain ⟨A, c, rfl, _, _⟩ := Sl.form hq
  clear hn hb hq hl
  show Calls Try.prog 61 #[.slice A q.length c, .pointer (some ⟨nb, 0, none⟩)] w' _
  go_enter Try.func61, Try.ntmps61
  go_wp2_with (go_at_call 62; (with_reducible refine Calls.mono HW.out ?_); rintro r w2 ⟨v2, rfl, h2, b2⟩; have H2 := hide h2; have B2 := hide b2; obtain ⟨A2, c2, rfl, _, _⟩ := Sl.form h2; clear h2 b2)
  go_ret
  exact ⟨_, rfl, H2.out, B2.out⟩
end
end Go.Proofs.Ytgiogmbopiblmaa
