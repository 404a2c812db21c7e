/- The reference's full. No condition but those written. -/
import Derived.Test.YtgiogmbopiblmaaPse
namespace Go.Proofs.Ytgiogmbopiblmaa
open Go.RowKit

def wideL (q : List Pr) : Bool := decide (64 < q.length)
theorem cut_allG {P : List Pc} {N : Nat} (hg : Good P N) : cutP 1 65537 P = P := by
  refine Nf.same (cut_nf hg.nf) hg.nf fun x _ => ?_
  rw [cut_den hg.nf]
  by_cases c : 1 ≤ x ∧ x < 65537
  · rw [if_pos c]
  · rw [if_neg c, hg.ran x (by omega)]
theorem like_any {P : List Pc} {N : Nat} {L : List (List Pr)} (hl : Like L P) (hg : Good P N) : L.any wideL = P.any fatP := by
  rw [Bool.eq_iff_iff, List.any_eq_true, List.any_eq_true]
  constructor
  · rintro ⟨q, hq, hw⟩
    unfold wideL at hw
    have hw2 : 64 < q.length := by simpa using hw
    obtain ⟨i, hi, e⟩ := List.mem_iff_getElem.1 hq
    have h1 := hl i
    rw [List.getElem?_eq_getElem hi, e] at h1
    have h2 : q = den P (i + 1) := h1
    have hne : den P (i + 1) ≠ [] := by
      intro e0
      rw [h2, e0] at hw2
      simp at hw2
    obtain ⟨p, hp, _, _, e3⟩ := den_from hne
    refine ⟨p, hp, ?_⟩
    unfold fatP
    rw [← e3, ← h2]
    simpa using hw2
  · rintro ⟨p, hp, hw⟩
    unfold fatP at hw
    have hw2 : 64 < p.pr.length := by simpa using hw
    obtain ⟨g1, g2, _, g4, _⟩ := hg.mem hp
    have h1 := (hg.nf.den_mem p hp).2.2.2 p.fr (Nat.le_refl _) g2
    have h2 := hl (p.fr - 1)
    rw [show p.fr - 1 + 1 = p.fr by omega, h1] at h2
    cases hq : L[p.fr - 1]? with
    | none =>
      rw [hq] at h2
      exact absurd h2.symm g4
    | some q =>
      rw [hq] at h2
      have h3 : q = p.pr := h2
      exact ⟨q, List.mem_of_getElem? hq, by unfold wideL; rw [h3]; simpa using hw2⟩
set_option maxRecDepth 100000 in
set_option maxHeartbeats 8000000 in
theorem rfull_any {w : World} {rb N : Nat} {v : Value} {R : List (List Pr × Value)} {P : List Pc} (h : RfAt w rb v R) (hl : Like (lsts R) P) (hg : Good P N) (hNB : N ≤ 1000) :
    Calls Try.prog 81 #[.pointer (some ⟨rb, 0, none⟩)] w fun e w' => e = .returned (.bool (fullP P)) ∧ Below w.heap.size w w' := by
  have HSP := hide (rspans_any h hl hg hNB 1 65537)
  have HLEN := hide (show (spP P 1 65537 0).length = P.length by
    have := spP_eq P (f := 1) (t := 65537) (by omega) (by omega) (by omega)
    rw [cut_allG hg] at this
    rw [show ((1 : Int)) = ((1 : Nat) : Int) from rfl, show ((65537 : Int)) = ((65537 : Nat) : Int) from rfl, this, List.length_map])
  have HAN := hide (like_any hl hg)
  have HPS := hide hg.size
  obtain ⟨A, c, rfl, _⟩ := h.inn.row.form
  obtain ⟨n, hn⟩ : ∃ n, n = R.length := ⟨_, rfl⟩
  have hn9 : (n : Int) ≤ 65536 := by have := h.len; omega
  have c0 : w.cell? ⟨rb, 0, none⟩ = some (.slice A n c) := by rw [hn]; exact h.box.cell 0
  have H := hide h
  rw [← hn] at H
  have HN := hide hn
  clear h hl hg hNB hn
  go_enter Try.func81, Try.ntmps81
  go_wp2
  go_loopw [3] (fun iv wr => ∃ k : Nat, iv = .int .i64 (k : Int) ∧ k ≤ n ∧ (((lsts R).take k).any wideL) = false ∧ w = wr) (fun iv _ => n - (intOf iv).toNat)
  case atStart => exact ⟨0, rfl, Nat.zero_le _, by simp, rfl⟩
  case round =>
    obtain ⟨k, rfl, hk, hno, rfl⟩ := hrel
    have HNO := hide hno
    by_cases hlt : k < n
    · have z0 : decide (k < n) = true := by simpa using hlt
      have z1 : decide ((k : Int) < (n : Int)) = true := by simp; omega
      have z2 : (k : Int) < (n : Int) := by omega
      obtain ⟨⟨q, qv⟩, hx⟩ : ∃ y, R[k]? = some y := ⟨_, List.getElem?_eq_getElem (by have := HN.out; omega)⟩
      obtain ⟨g, off, rfl, d00⟩ := H.out.inn.at_ hx
      have hqs := H.out.inn.inn _ (List.mem_of_getElem? hx)
      obtain ⟨Aq, cq, hqv, _⟩ := Sl.form hqs
      have hqv2 : qv = .slice Aq q.length cq := hqv
      obtain ⟨ql, hql⟩ : ∃ y, y = q.length := ⟨_, rfl⟩
      rw [← hql] at hqv2
      subst hqv2
      have d0 : w.cell? ⟨g, off + k, none⟩ = some (.slice Aq ql cq) := d00
      have hql9 : ql ≤ 1000 := by have := H.out.fit _ (List.mem_of_getElem? hx); rw [hql]; exact this
      have hql8 : (ql : Int) ≤ 1000 := by omega
      have HST := hide (show (((lsts R).take (k + 1)).any wideL) = decide (64 < ql) by
        rw [List.take_add_one, lsts_get hx, List.any_append, HNO.out, hql]
        simp [wideL])
      have HLT := hide hlt
      have HX := hide hx
      clear hx d00 hqs hqv hql hlt hk hno
      by_cases hw : 64 < ql
      · have y0 : decide (64 < ql) = true := by simpa using hw
        have y1 : decide ((64 : Int) < (ql : Int)) = true := by simp; omega
        have y2 : (64 : Int) < (ql : Int) := by omega
        have HR := hide (show fullP P = true by
          unfold fullP
          rw [← HAN.out, Bool.or_eq_true]
          right
          have h1 := HST.out
          rw [y0, List.any_eq_true] at h1
          rw [List.any_eq_true]
          obtain ⟨z, hz, hz2⟩ := h1
          exact ⟨z, List.mem_of_mem_take hz, hz2⟩)
        clear hw
        go_wp2
        go_ret
        exact ⟨by rw [HR.out]; rfl, Below.refl _ _⟩
      · have y0 : decide (64 < ql) = false := by simpa using hw
        have y1 : decide ((64 : Int) < (ql : Int)) = false := by simp; omega
        have y2 : ¬ (64 : Int) < (ql : Int) := by omega
        have HS2 := hide (show (((lsts R).take (k + 1)).any wideL) = false by rw [HST.out]; exact y0)
        clear hw
        go_wp2
        go_roundw
        case rel => exact ⟨k + 1, by go_num, HLT.out, HS2.out, by trivial⟩
        case measure => have := HLT.out; simp [intOf]; omega
    · have z0 : decide (k < n) = false := by simpa using hlt
      have z1 : decide ((k : Int) < (n : Int)) = false := by simp; omega
      have z2 : ¬ (k : Int) < (n : Int) := by omega
      have HA := hide (show (lsts R).any wideL = false by
        rw [List.take_of_length_le (by rw [lsts_len, ← HN.out]; omega)] at hno
        exact hno)
      clear hlt hk hno
      go_wp2_with fail
      refine (Calls.mono HSP.out) ?_
      rintro r w5 ⟨vS, S, rfl, hO, hS⟩
      obtain ⟨As, cs, rfl, _⟩ := hO.inn.row.form
      have HSL := hide (show S.length = P.length by rw [← sns_len, hS]; exact HLEN.out)
      have HB := hide hO.bel
      obtain ⟨ns, hns⟩ : ∃ y, y = S.length := ⟨_, rfl⟩
      rw [← hns] at HSL ⊢
      have hns9 : (ns : Int) ≤ 65537 := by have := HPS.out; have := HSL.out; omega
      clear hO hS hns
      by_cases hf : 1024 < ns
      · have y0 : decide (1024 < ns) = true := by simpa using hf
        have y1 : decide ((1024 : Int) < (ns : Int)) = true := by simp; omega
        have y2 : (1024 : Int) < (ns : Int) := by omega
        have HR := hide (show fullP P = true by
          unfold fullP
          rw [← HAN.out, HA.out, ← HSL.out, y0]
          rfl)
        clear hf
        go_wp2
        go_ret
        exact ⟨by rw [HR.out]; rfl, HB.out⟩
      · have y0 : decide (1024 < ns) = false := by simpa using hf
        have y1 : decide ((1024 : Int) < (ns : Int)) = false := by simp; omega
        have y2 : ¬ (1024 : Int) < (ns : Int) := by omega
        have HR := hide (show fullP P = false by
          unfold fullP
          rw [← HAN.out, HA.out, ← HSL.out, y0]
          rfl)
        clear hf
        go_wp2
        go_ret
        exact ⟨by rw [HR.out]; rfl, HB.out⟩
end Go.Proofs.Ytgiogmbopiblmaa
namespace Go.Proofs.Ytgiogmbopiblmaa
open Go.RowKit

theorem Like.fit {L : List (List Pr)} {P : List Pc} {N : Nat} (h : Like L P) (hg : Good P N) : ∀ q ∈ L, q.length ≤ N := by
  intro q hq
  obtain ⟨i, hi, e⟩ := List.mem_iff_getElem.1 hq
  have h1 := h i
  rw [List.getElem?_eq_getElem hi, e] at h1
  have h2 : q = den P (i + 1) := h1
  rw [h2]
  exact hg.len _
theorem PutRel.like {L L' : List (List Pr)} {P : List Pc} {a d N : Nat} {x : Pr} (h : PutRel L a d x L') (hl : Like L P) (hg : Good P N) (had : a ≤ d) : Like L' (changeP a d (fun q => withP q x) P) := by
  intro i
  obtain ⟨_, g2⟩ := change_law (fun q => withP q x) hg.nf had
  rw [h.val, g2, hl i]
  rfl
theorem ROb.of_copy {W w w' : World} {rb : Nat} {v : Value} {R : List (List Pr × Value)} (h : RfAt w' rb v R) (h1 : w.heap.size ≤ rb) (h2 : ∀ g, v.ownBlock = some g → w.heap.size ≤ g) (hb : Below w.heap.size w w') (_hW : W = w) : ROb w w' rb (lsts R) := ⟨⟨v, R, h, rfl, h2⟩, h1, hb⟩
/-- What a call on the reference leaves. -/
def RRes (W w : World) (rb : Nat) (P' : List Pc) (r : Value) (e : Ending) (w' : World) : Prop := e = .returned r ∧ (∃ L', ROb W w' rb L' ∧ Like L' P') ∧ KeepT isRef w w'
section
variable {W w w' : World} {rb : Nat} {L : List (List Pr)} {P : List Pc}
theorem RRes.same (h : ROb W w rb L) (hl : Like L P) (hb : Below w.heap.size w w') : (∃ L', ROb W w' rb L' ∧ Like L' P) ∧ KeepT isRef w w' := ⟨⟨L, h.below hb, hl⟩, KeepT.of_below hb⟩
theorem ROb.at_ (h : ROb W w rb L) : ∃ v R, RfAt w rb v R ∧ lsts R = L ∧ ∀ g, v.ownBlock = some g → W.heap.size ≤ g := h.ex
set_option maxRecDepth 100000 in
set_option maxHeartbeats 16000000 in
theorem rPut_any (h : ROb W w rb L) (hl : Like L P) (hg : Good P 64) (fr en n k v : Int) : Calls Try.prog 64 #[.pointer (some ⟨rb, 0, none⟩), .int .i64 fr, .int .i64 en, .int .i64 n, .agg #[.int .i64 k, .int .i64 v]] w (RRes W w rb (putP P fr en (n, k, v)) (.int .i64 (putE P fr en (n, k, v)))) := by
  have hb0 := below_box w (.cells #[.int .i64 k, .int .i64 v] 29)
  obtain ⟨w0, hw0⟩ : ∃ y : World, y = w.alloc (.cells #[.int .i64 k, .int .i64 v] 29) := ⟨_, rfl⟩
  have HMA := hide (rmay_any fr en w0)
  have HB0 := hide (show Below w.heap.size w w0 by rw [hw0]; exact hb0)
  have HBX := hide (show Blk w0 w.heap.size 29 #[.int .i64 k, .int .i64 v] by rw [hw0]; exact Blk.new w _ _)
  have HW0 := hide hw0
  have H := hide h
  have HL := hide hl
  have HG := hide hg
  have HS := hide (fun (y : World) (hb : Below w.heap.size w y) => RRes.same h hl hb)
  clear h hl hg hb0 hw0
  by_cases hm : mayP fr en
  · rw [decide_eq_true hm] at HMA
    by_cases hn : n < 0
    · have z0 : decide (n < 0) = true := by simpa using hn
      have HE := hide (show putE P fr en (n, k, v) = 17 ∧ putP P fr en (n, k, v) = P by
        have hc : chkE fr en n = 17 := by
          unfold chkE
          rw [if_pos (show 1 ≤ fr ∧ fr ≤ en ∧ en ≤ 65537 from hm), if_pos hn]
        unfold putE putP
        simp only [hc]
        exact ⟨rfl, rfl⟩)
      clear hm hn
      go_enter Try.func64, Try.ntmps64
      go_wp2_with (rw [← HW0.out]; (go_at_call 70; (with_reducible refine Calls.mono HMA.out ?_); rintro r w1 ⟨rfl, rfl⟩))
      go_ret
      rw [HE.out.1, HE.out.2]
      exact ⟨rfl, HS.out _ HB0.out⟩
    · have z0 : decide (n < 0) = false := by simpa using hn
      have hc : chkE fr en n = 0 := by
        unfold chkE
        rw [if_pos (show 1 ≤ fr ∧ fr ≤ en ∧ en ≤ 65537 from hm), if_neg hn]
      obtain ⟨m1, m2, m3⟩ := hm
      obtain ⟨a, rfl⟩ : ∃ y : Nat, fr = (y : Int) := ⟨fr.toNat, by omega⟩
      obtain ⟨d, rfl⟩ : ∃ y : Nat, en = (y : Int) := ⟨en.toNat, by omega⟩
      have had : a ≤ d := by omega
      have hgc : Good (changeP a d (fun q => withP q (n, k, v)) P) 65 := HG.out.change (by omega) (by omega) (by omega) (fun q hq => hq.with_ (by simpa using hn)) (by omega)
      have HE := hide (show putE P a d (n, k, v) = (if fullP (changeP a d (fun q => withP q (n, k, v)) P) then 7 else 0) ∧ putP P a d (n, k, v) = (if fullP (changeP a d (fun q => withP q (n, k, v)) P) then P else changeP a d (fun q => withP q (n, k, v)) P) by
        unfold putE putP
        simp only [hc, Int.toNat_natCast]
        exact ⟨rfl, rfl⟩)
      have H0 := H.out.below HB0.out
      obtain ⟨v0, R, hr, hrl, hg0⟩ := H0.ex
      have HCP := hide (rcopy_any hr)
      have HGC := hide hgc
      have HAD := hide had
      have HA1 := hide (show 1 ≤ a by omega)
      have HD1 := hide (show d ≤ 65537 by omega)
      have HRL := hide hrl
      have HR0 := hide hr
      have HGB := hide H0.bel
      clear hn hc m1 m2 m3 had hgc H0 hr hrl hg0
      go_enter Try.func64, Try.ntmps64
      go_wp2_with (rw [← HW0.out]; (go_at_call 70; (with_reducible refine Calls.mono HMA.out ?_); rintro r w1 ⟨rfl, rfl⟩))
      refine (Calls.mono HCP.out) ?_
      rintro r w2 ⟨rb2, v2, R2, rfl, h2, e2, g2, o2, b2⟩
      have HO2 := hide (show ROb w0 w2 rb2 L from by
        have := ROb.of_copy h2 g2 o2 b2 rfl
        rw [e2, HRL.out] at this
        exact this)
      have HB2 := hide b2
      have c0 := (HBX.out.below b2 HBX.out.lt).cell 0
      have c1 := (HBX.out.below b2 HBX.out.lt).cell 1
      clear h2 e2 g2 o2 b2 HCP
      have HPU := hide (rput_any HO2.out a d 64 (n, k, v) HA1.out HAD.out HD1.out (HL.out.fit HG.out) (by omega))
      go_wp2_with fail
      refine (Calls.mono HPU.out) ?_
      rintro r w3 ⟨rfl, L3, h3, p3, _⟩
      have HO3 := hide h3
      have HL3 := hide (p3.like HL.out HG.out HAD.out)
      clear h3 p3 HPU c0 c1
      obtain ⟨v3, R3, hr3, hrl3, hg3⟩ := HO3.out.ex
      have HR3 := hide hr3
      have HRL3 := hide hrl3
      have HG3 := hide hg3
      have HFU := hide (rfull_any hr3 (by rw [hrl3]; exact HL3.out) HGC.out (by omega))
      clear hr3 hrl3 hg3
      cases hf : fullP (changeP a d (fun q => withP q (n, k, v)) P) with
      | true =>
        rw [hf] at HFU HE
        clear hf
        go_wp2_with fail
        refine (Calls.mono HFU.out) ?_
        rintro r w4 ⟨rfl, b4⟩
        have HB4 := hide (HB0.out.trans ((HO3.out.bel.trans (b4.mono HO3.out.bel.size)).mono HB0.out.size))
        clear b4
        go_wp2
        go_ret
        rw [HE.out.1, HE.out.2]
        exact ⟨rfl, HS.out _ HB4.out⟩
      | false =>
        rw [hf] at HFU HE
        clear hf
        go_wp2_with fail
        refine (Calls.mono HFU.out) ?_
        rintro r w4 ⟨rfl, b4⟩
        have HB4 := hide (HB0.out.trans ((HO3.out.bel.trans (b4.mono HO3.out.bel.size)).mono HB0.out.size))
        have hr4 := HR3.out.below b4
        have HX4 := hide hr4.inn
        have c0 : w4.cell? ⟨rb2, 0, none⟩ = some v3 := hr4.box.cell 0
        have hbx := HR0.out.box.below (HO3.out.bel.trans (b4.mono HO3.out.bel.size)) HR0.out.box.lt
        have c1 := hbx.cell 0
        have f1 := hbx.frozen 0
        have HBB := hide hbx
        obtain ⟨A3, c3, e3, _⟩ := hr4.inn.row.form
        subst e3
        clear b4 hr4 hbx
        go_wp2
        go_ret
        rw [HE.out.1, HE.out.2]
        refine ⟨rfl, ⟨L3, ?_, HL3.out⟩, (KeepT.of_below HB4.out).trans (keep_store HBB.out)⟩
        have := ROb.store H.out (H.out.bel.trans (HB4.out.mono H.out.bel.size)) ⟨_, HBB.out⟩ HX4.out HR3.out.len HR3.out.fit (fun g hg => by
          have h1 := HG3.out g hg
          have h2 := HGB.out.size
          omega) rfl
        rw [HRL3.out] at this
        exact this
  · rw [decide_eq_false hm] at HMA
    have HE := hide (show putE P fr en (n, k, v) = 3 ∧ putP P fr en (n, k, v) = P by
      have hc : chkE fr en n = 3 := by
        unfold chkE
        rw [if_neg (show ¬ (1 ≤ fr ∧ fr ≤ en ∧ en ≤ 65537) from hm)]
      unfold putE putP
      simp only [hc]
      exact ⟨rfl, rfl⟩)
    clear hm
    go_enter Try.func64, Try.ntmps64
    go_wp2_with (rw [← HW0.out]; (go_at_call 70; (with_reducible refine Calls.mono HMA.out ?_); rintro r w1 ⟨rfl, rfl⟩))
    go_ret
    rw [HE.out.1, HE.out.2]
    exact ⟨rfl, HS.out _ HB0.out⟩
end
end Go.Proofs.Ytgiogmbopiblmaa
namespace Go.Proofs.Ytgiogmbopiblmaa
open Go.RowKit

section
variable {W w w' : World} {rb : Nat} {L : List (List Pr)} {P : List Pc}
set_option maxRecDepth 100000 in
set_option maxHeartbeats 16000000 in
theorem rTake_any (h : ROb W w rb L) (hl : Like L P) (hg : Good P 64) (fr en n : Int) : Calls Try.prog 65 #[.pointer (some ⟨rb, 0, none⟩), .int .i64 fr, .int .i64 en, .int .i64 n] w (RRes W w rb (takeP P fr en n) (.int .i64 (chkE fr en n))) := by
  have HMA := hide (rmay_any fr en w)
  have H := hide h
  have HL := hide hl
  have HG := hide hg
  have HS := hide (fun (y : World) (hb : Below w.heap.size w y) => RRes.same h hl hb)
  clear h hl hg
  by_cases hm : mayP fr en
  · rw [decide_eq_true hm] at HMA
    by_cases hn : n < 0
    · have z0 : decide (n < 0) = true := by simpa using hn
      have HE := hide (show chkE fr en n = 17 ∧ takeP P fr en n = P by
        have hc : chkE fr en n = 17 := by
          unfold chkE
          rw [if_pos (show 1 ≤ fr ∧ fr ≤ en ∧ en ≤ 65537 from hm), if_pos hn]
        unfold takeP
        simp only [hc]
        exact ⟨trivial, rfl⟩)
      clear hm hn
      go_enter Try.func65, Try.ntmps65
      go_wp2_with (go_at_call 70; (with_reducible refine Calls.mono HMA.out ?_); rintro r w1 ⟨rfl, rfl⟩)
      go_ret
      rw [HE.out.1, HE.out.2]
      exact ⟨rfl, HS.out _ (Below.refl _ _)⟩
    · have z0 : decide (n < 0) = false := by simpa using hn
      have hc : chkE fr en n = 0 := by
        unfold chkE
        rw [if_pos (show 1 ≤ fr ∧ fr ≤ en ∧ en ≤ 65537 from hm), if_neg hn]
      obtain ⟨m1, m2, m3⟩ := hm
      obtain ⟨a, rfl⟩ : ∃ y : Nat, fr = (y : Int) := ⟨fr.toNat, by omega⟩
      obtain ⟨d, rfl⟩ : ∃ y : Nat, en = (y : Int) := ⟨en.toNat, by omega⟩
      have HE := hide (show chkE a d n = 0 ∧ takeP P a d n = changeP a d (fun q => withoutP q n) P by
        unfold takeP
        simp only [hc, Int.toNat_natCast]
        exact ⟨trivial, rfl⟩)
      have HAD := hide (show a ≤ d by omega)
      have HA1 := hide (show 1 ≤ a by omega)
      have hd9 : (d : Int) ≤ 65537 := by omega
      have HLL := hide H.out.len
      clear hn hc m1 m2 m3
      go_enter Try.func65, Try.ntmps65
      go_wp2_with (go_at_call 70; (with_reducible refine Calls.mono HMA.out ?_); rintro r w1 ⟨rfl, rfl⟩)
      go_loopw [9] (fun iv wr => ∃ (j : Nat) (L2 : List (List Pr)), iv = .int .i64 (j : Int) ∧ a ≤ j ∧ j ≤ d ∧ ROb W wr rb L2 ∧ L2.length = L.length ∧ (∀ i : Nat, (L2[i]?).getD [] = if a ≤ i + 1 ∧ i + 1 < j then withoutP ((L[i]?).getD []) n else (L[i]?).getD []) ∧ KeepT isRef w wr) (fun iv _ => d - (intOf iv).toNat)
      case atStart => exact ⟨a, L, rfl, Nat.le_refl _, HAD.out, H.out, rfl, fun i => by rw [if_neg (by omega)], KeepT.refl _ _⟩
      case round =>
        obtain ⟨j, L2, rfl, hj1, hj2, ho, hlen, hval, hkp⟩ := hrel
        have HO := hide ho
        have HLN := hide hlen
        have HVL := hide hval
        have HKP := hide hkp
        have HJ1 := hide hj1
        have HJ2 := hide hj2
        obtain ⟨v, R, hr, hrl, hg⟩ := id ho.ex
        obtain ⟨nn, hnn⟩ : ∃ y, y = R.length := ⟨_, rfl⟩
        have hnl : nn = L.length := by rw [hnn, ← lsts_len, hrl, hlen]
        have hn9 : (nn : Int) ≤ 65536 := by have := hr.len; omega
        by_cases hj : j < d ∧ j ≤ nn
        · obtain ⟨hjd, hjn⟩ := hj
          have z1 : decide (j < d) = true := by simpa using hjd
          have z2 : decide ((j : Int) < (d : Int)) = true := by simp; omega
          have z3 : (j : Int) < (d : Int) := by omega
          have z4 : decide (j ≤ nn) = true := by simpa using hjn
          have z5 : decide ((j : Int) ≤ (nn : Int)) = true := by simp; omega
          have z6 : (j : Int) ≤ (nn : Int) := by omega
          obtain ⟨m, hm⟩ : ∃ m, j = m + 1 := ⟨j - 1, by have := HA1.out; omega⟩
          have wj : IntKind.i64.wrap ((j : Int) - 1) = (m : Int) := by rw [show (j : Int) - 1 = (m : Int) by omega]; exact IntWalk.i64_in _ (by omega)
          have hmn : m < nn := by omega
          obtain ⟨g, off, c, cs, rfl, _, hnc, hcm, _⟩ : ∃ g off c cs, v = .slice (some ⟨g, off, none⟩) nn c ∧ wr.heap[g]? = some (.cells cs 32 (0, 0)) ∧ nn ≤ c ∧ c ≤ maxLen ∧ True := by
            rcases hr.inn.row.2 with ⟨_, e⟩ | ⟨g, off, c, cs, e, e1, e2, e3, _⟩
            · omega
            · exact ⟨g, off, c, cs, by rw [hnn]; exact e, e1, by omega, e3, trivial⟩
          obtain ⟨⟨q, qv⟩, hx⟩ : ∃ y, R[m]? = some y := ⟨_, List.getElem?_eq_getElem (by omega)⟩
          obtain ⟨g', off', e, d0⟩ := hr.inn.at_ hx
          cases e
          have hqs := hr.inn.inn _ (List.mem_of_getElem? hx)
          have hql : q.length ≤ 1000 := hr.fit _ (List.mem_of_getElem? hx)
          have HWT := hide (rwithout_any (w := wr.drew) q qv n hqs hql)
          have c0 : wr.cell? ⟨rb, 0, none⟩ = some (.slice (some ⟨g, off, none⟩) nn c) := hr.box.cell 0
          have y0 : decide (m < nn) = true := by simpa using hmn
          have y1 : decide ((m : Int) < (nn : Int)) = true := by simp; omega
          have y2 : (m : Int) < (nn : Int) := by omega
          have HR := hide hr
          have HRL := hide hrl
          have HG2 := hide hg
          have HX := hide hx
          have HM := hide hm
          have HMN := hide hmn
          have HN := hide hnn
          have HJD := hide hjd
          have HQL := hide hql
          have HC := hide c0
          have HD0 := hide d0
          clear ho hlen hval hkp hj1 hj2 hjd hjn hm hr hrl hg hnn hmn hx hqs hql hnc hcm hnl
          go_upto_region 8 with fail
          have HK := hide (fun (y : World) (hb : Below wr.heap.size wr y) => (⟨cell_keep HC.out hb, cell_keep HD0.out hb⟩ : (y.cell? ⟨rb, 0, none⟩ = some (.slice (some ⟨g, off, none⟩) nn c) ∧ y.cell? ⟨g, off + m, none⟩ = some qv)))
          refine wp_region_d (S := fun y => (y.cell? ⟨rb, 0, none⟩ = some (.slice (some ⟨g, off, none⟩) nn c) ∧ y.cell? ⟨g, off + m, none⟩ = some qv)) (D := [17]) (by kernel_rfl) ?_
          change wpAnyD _ _ _ _ _ _ _ _ _ wr.drew
          have hS := HK.out _ (Below.refl wr.heap.size wr).drew
          clear c0 d0
          refine wpAnyD_takeW (i := 0) (oi := { dst := some 33, op := Op.move (Operand.tmp 0), type := 61, pos := "ref.go:141", after := #[], guard := none }) (v := ?_) rfl (by kernel_rfl) (by kernel_rfl) (by kernel_rfl) (fun _ _ _ h => h) (Or.inl ⟨by rfl, ?_⟩) ?_
          rotate_left
          · intro w hSw
            clear hSw
            go_simp
            all_goals with_reducible rfl
          simp only [Act.put, List.setIfInBounds_toArray, List.set_cons_zero, List.set_cons_succ]
          refine wpAnyD_takeW (i := 1) (oi := { dst := some 34, op := Op.nilCheck (Operand.tmp 33), type := 0, pos := "ref.go:141", after := #[{ on := 0, ground := Ground.data }], guard := none }) (v := ?_) rfl (by kernel_rfl) (by kernel_rfl) (by kernel_rfl) (fun _ _ _ h => h) (Or.inl ⟨by rfl, ?_⟩) ?_
          rotate_left
          · intro w hSw
            clear hSw
            go_simp
            all_goals with_reducible rfl
          simp only [Act.put, List.setIfInBounds_toArray, List.set_cons_zero, List.set_cons_succ]
          refine wpAnyD_takeW (i := 2) (oi := { dst := some 35, op := Op.fieldAddr 84 (Operand.tmp 34) 0, type := 0, pos := "ref.go:141", after := #[{ on := 1, ground := Ground.data }], guard := none }) (v := ?_) rfl (by kernel_rfl) (by kernel_rfl) (by kernel_rfl) (fun _ _ _ h => h) (Or.inl ⟨by rfl, ?_⟩) ?_
          rotate_left
          · intro w hSw
            clear hSw
            go_simp
            all_goals with_reducible rfl
          simp only [Act.put, List.setIfInBounds_toArray, List.set_cons_zero, List.set_cons_succ]
          refine wpAnyD_take (i := 3) (oi := { dst := some 36, op := Op.load 82 (Operand.tmp 35), type := 82, pos := "ref.go:141", after := #[{ on := 2, ground := Ground.data }], guard := none }) (v := ?_) rfl (by kernel_rfl) (by kernel_rfl) (by kernel_rfl) (by kernel_rfl) (by kernel_rfl) (fun _ _ _ h => h) (Or.inl ⟨by rfl, ?_⟩) hS ?_
          rotate_left
          · intro w hSw
            obtain ⟨s0, s1⟩ := hSw
            go_simp
            all_goals with_reducible rfl
          simp only [Act.put, List.setIfInBounds_toArray, List.set_cons_zero, List.set_cons_succ]
          refine wpAnyD_takeW (i := 4) (oi := { dst := some 37, op := Op.move (Operand.tmp 9), type := 3, pos := "ref.go:141", after := #[], guard := none }) (v := ?_) rfl (by kernel_rfl) (by kernel_rfl) (by kernel_rfl) (fun _ _ _ h => h) (Or.inl ⟨by rfl, ?_⟩) ?_
          rotate_left
          · intro w hSw
            clear hSw
            go_simp
            all_goals with_reducible rfl
          simp only [Act.put, List.setIfInBounds_toArray, List.set_cons_zero, List.set_cons_succ]
          refine wpAnyD_takeW (i := 5) (oi := { dst := some 38, op := Op.binOp BinOp.sub 3 (Operand.tmp 37) (Operand.const (Value.int IntKind.i64 1)) 3, type := 3, pos := "ref.go:141", after := #[{ on := 4, ground := Ground.data }], guard := none }) (v := ?_) rfl (by kernel_rfl) (by kernel_rfl) (by kernel_rfl) (fun _ _ _ h => h) (Or.inl ⟨by rfl, ?_⟩) ?_
          rotate_left
          · intro w hSw
            clear hSw
            go_simp
            all_goals with_reducible rfl
          simp only [Act.put, List.setIfInBounds_toArray, List.set_cons_zero, List.set_cons_succ]
          refine wpAnyD_takeW (i := 6) (oi := { dst := some 39, op := Op.move (Operand.tmp 0), type := 61, pos := "ref.go:141", after := #[], guard := none }) (v := ?_) rfl (by kernel_rfl) (by kernel_rfl) (by kernel_rfl) (fun _ _ _ h => h) (Or.inl ⟨by rfl, ?_⟩) ?_
          rotate_left
          · intro w hSw
            clear hSw
            go_simp
            all_goals with_reducible rfl
          simp only [Act.put, List.setIfInBounds_toArray, List.set_cons_zero, List.set_cons_succ]
          refine wpAnyD_takeW (i := 7) (oi := { dst := some 40, op := Op.nilCheck (Operand.tmp 39), type := 0, pos := "ref.go:141", after := #[{ on := 6, ground := Ground.data }], guard := none }) (v := ?_) rfl (by kernel_rfl) (by kernel_rfl) (by kernel_rfl) (fun _ _ _ h => h) (Or.inl ⟨by rfl, ?_⟩) ?_
          rotate_left
          · intro w hSw
            clear hSw
            go_simp
            all_goals with_reducible rfl
          simp only [Act.put, List.setIfInBounds_toArray, List.set_cons_zero, List.set_cons_succ]
          refine wpAnyD_takeW (i := 8) (oi := { dst := some 41, op := Op.fieldAddr 84 (Operand.tmp 40) 0, type := 0, pos := "ref.go:141", after := #[{ on := 7, ground := Ground.data }], guard := none }) (v := ?_) rfl (by kernel_rfl) (by kernel_rfl) (by kernel_rfl) (fun _ _ _ h => h) (Or.inl ⟨by rfl, ?_⟩) ?_
          rotate_left
          · intro w hSw
            clear hSw
            go_simp
            all_goals with_reducible rfl
          simp only [Act.put, List.setIfInBounds_toArray, List.set_cons_zero, List.set_cons_succ]
          refine wpAnyD_take (i := 9) (oi := { dst := some 42, op := Op.load 82 (Operand.tmp 41), type := 82, pos := "ref.go:141", after := #[{ on := 8, ground := Ground.data }], guard := none }) (v := ?_) rfl (by kernel_rfl) (by kernel_rfl) (by kernel_rfl) (by kernel_rfl) (by kernel_rfl) (fun _ _ _ h => h) (Or.inl ⟨by rfl, ?_⟩) hS ?_
          rotate_left
          · intro w hSw
            obtain ⟨s0, s1⟩ := hSw
            go_simp
            all_goals with_reducible rfl
          simp only [Act.put, List.setIfInBounds_toArray, List.set_cons_zero, List.set_cons_succ]
          refine wpAnyD_takeW (i := 10) (oi := { dst := some 43, op := Op.move (Operand.tmp 9), type := 3, pos := "ref.go:141", after := #[], guard := none }) (v := ?_) rfl (by kernel_rfl) (by kernel_rfl) (by kernel_rfl) (fun _ _ _ h => h) (Or.inl ⟨by rfl, ?_⟩) ?_
          rotate_left
          · intro w hSw
            clear hSw
            go_simp
            all_goals with_reducible rfl
          simp only [Act.put, List.setIfInBounds_toArray, List.set_cons_zero, List.set_cons_succ]
          refine wpAnyD_takeW (i := 11) (oi := { dst := some 44, op := Op.binOp BinOp.sub 3 (Operand.tmp 43) (Operand.const (Value.int IntKind.i64 1)) 3, type := 3, pos := "ref.go:141", after := #[{ on := 10, ground := Ground.data }], guard := none }) (v := ?_) rfl (by kernel_rfl) (by kernel_rfl) (by kernel_rfl) (fun _ _ _ h => h) (Or.inl ⟨by rfl, ?_⟩) ?_
          rotate_left
          · intro w hSw
            clear hSw
            go_simp
            all_goals with_reducible rfl
          simp only [Act.put, List.setIfInBounds_toArray, List.set_cons_zero, List.set_cons_succ]
          refine wpAnyD_takeW (i := 12) (oi := { dst := some 45, op := Op.indexAddr 82 (Operand.tmp 42) (Operand.tmp 44), type := 0, pos := "ref.go:141", after := #[{ on := 9, ground := Ground.data }, { on := 11, ground := Ground.data }], guard := none }) (v := ?_) rfl (by kernel_rfl) (by kernel_rfl) (by kernel_rfl) (fun _ _ _ h => h) (Or.inl ⟨by rfl, ?_⟩) ?_
          rotate_left
          · intro w hSw
            clear hSw
            go_simp
            all_goals with_reducible rfl
          simp only [Act.put, List.setIfInBounds_toArray, List.set_cons_zero, List.set_cons_succ]
          refine wpAnyD_take (i := 13) (oi := { dst := some 46, op := Op.load 32 (Operand.tmp 45), type := 32, pos := "ref.go:141", after := #[{ on := 12, ground := Ground.data }], guard := none }) (v := ?_) rfl (by kernel_rfl) (by kernel_rfl) (by kernel_rfl) (by kernel_rfl) (by kernel_rfl) (fun _ _ _ h => h) (Or.inl ⟨by rfl, ?_⟩) hS ?_
          rotate_left
          · intro w hSw
            obtain ⟨s0, s1⟩ := hSw
            go_simp
            all_goals with_reducible rfl
          simp only [Act.put, List.setIfInBounds_toArray, List.set_cons_zero, List.set_cons_succ]
          refine wpAnyD_takeW (i := 14) (oi := { dst := some 47, op := Op.move (Operand.tmp 3), type := 3, pos := "ref.go:141", after := #[], guard := none }) (v := ?_) rfl (by kernel_rfl) (by kernel_rfl) (by kernel_rfl) (fun _ _ _ h => h) (Or.inl ⟨by rfl, ?_⟩) ?_
          rotate_left
          · intro w hSw
            clear hSw
            go_simp
            all_goals with_reducible rfl
          simp only [Act.put, List.setIfInBounds_toArray, List.set_cons_zero, List.set_cons_succ]
          clear hS
          refine wpAnyD_one (i := 15) (o := { dst := some 48, op := Op.call { callee := Callee.value (Operand.func 82), args := #[Operand.tmp 46, Operand.tmp 47], argTypes := #[32, 3] }, type := 32, pos := "ref.go:141", after := #[{ on := 13, ground := Ground.data }, { on := 14, ground := Ground.data }], guard := none }) (by kernel_rfl) rfl (fun K hK => ?_)
          go_simp
          (with_reducible refine Calls.mono HWT.out ?_)
          rintro r w5 ⟨v5, rfl, h5, _, b5⟩
          have H5 := hide h5
          have B5 := hide (show Below wr.heap.size wr w5 from (Below.refl wr.heap.size wr).drew.trans b5)
          have hS := HK.out _ B5.out
          clear h5 b5
          refine hK _ _ (fun _ _ => hS) ?_
          clear hK K
          try simp only [Act.put, List.setIfInBounds_toArray, List.set_cons_zero, List.set_cons_succ]
          obtain ⟨A5, c5, e5, _⟩ := Sl.form H5.out
          subst e5
          refine wpAnyD_takeW (i := 16) (oi := { dst := some 49, op := Op.indexAddr 82 (Operand.tmp 36) (Operand.tmp 38), type := 0, pos := "ref.go:141", after := #[{ on := 3, ground := Ground.data }, { on := 5, ground := Ground.data }, { on := 0, ground := Ground.phase }, { on := 1, ground := Ground.phase }, { on := 2, ground := Ground.phase }, { on := 3, ground := Ground.phase }, { on := 4, ground := Ground.phase }, { on := 5, ground := Ground.phase }, { on := 6, ground := Ground.phase }, { on := 7, ground := Ground.phase }, { on := 8, ground := Ground.phase }, { on := 9, ground := Ground.phase }, { on := 10, ground := Ground.phase }, { on := 11, ground := Ground.phase }, { on := 12, ground := Ground.phase }, { on := 13, ground := Ground.phase }, { on := 14, ground := Ground.phase }, { on := 15, ground := Ground.phase }], guard := none }) (v := ?_) rfl (by kernel_rfl) (by kernel_rfl) (by kernel_rfl) (fun _ _ _ h => h) (Or.inl ⟨by rfl, ?_⟩) ?_
          rotate_left
          · intro w hSw
            clear hSw
            go_simp
            all_goals with_reducible rfl
          simp only [Act.put, List.setIfInBounds_toArray, List.set_cons_zero, List.set_cons_succ]
          have r0 := hS.2
          have r1 := (row_facts (HR.out.below B5.out) HN.out HMN.out HX.out (.slice A5 (withoutP q n).length c5)).2.1
          clear hS
          refine wpAnyD_one (i := 17) (o := { dst := none, op := Op.store 32 (Operand.tmp 49) (Operand.tmp 48), type := 0, pos := "ref.go:141", after := #[{ on := 16, ground := Ground.data }, { on := 15, ground := Ground.data }, { on := 15, ground := Ground.chain }, { on := 0, ground := Ground.phase }, { on := 1, ground := Ground.phase }, { on := 2, ground := Ground.phase }, { on := 3, ground := Ground.phase }, { on := 4, ground := Ground.phase }, { on := 5, ground := Ground.phase }, { on := 6, ground := Ground.phase }, { on := 7, ground := Ground.phase }, { on := 8, ground := Ground.phase }, { on := 9, ground := Ground.phase }, { on := 10, ground := Ground.phase }, { on := 11, ground := Ground.phase }, { on := 12, ground := Ground.phase }, { on := 13, ground := Ground.phase }, { on := 14, ground := Ground.phase }, { on := 15, ground := Ground.phase }], guard := none }) (by kernel_rfl) rfl (fun K hK => ?_)
          go_simp
          refine hK _ _ (fun h => by cases h) ?_
          clear hK K
          try simp only [Act.put, List.setIfInBounds_toArray, List.set_cons_zero, List.set_cons_succ]
          refine wpAnyD_done (by kernel_rfl) ?_ _
          have HNEW := hide (show ROb W (w5.setCell ⟨g, off + m, none⟩ (.slice A5 (withoutP q n).length c5)) rb (L2.set m (withoutP q n)) by
            have := ROb.set_ (W := W) (HR.out.below B5.out) HN.out HMN.out H5.out (Nat.le_trans (List.length_filter_le _ _) HQL.out) HO.out.ge HG2.out (HO.out.bel.trans (B5.out.mono HO.out.bel.size))
            rw [HRL.out] at this
            exact this)
          have HKN := hide (show KeepT isRef w (w5.setCell ⟨g, off + m, none⟩ (.slice A5 (withoutP q n).length c5)) by
            have hrow := (HR.out.below B5.out).inn.row
            rw [← HN.out] at hrow
            exact (HKP.out.trans (KeepT.of_below B5.out)).trans (keep_row hrow))
          have HQM := hide (show q = (L[m]?).getD [] by
            have h1 := HVL.out m
            rw [← HRL.out, lsts_get HX.out, if_neg (by have := HM.out; omega)] at h1
            exact h1)
          go_wp2
          go_roundw
          case rel =>
            refine ⟨j + 1, _, by go_num, by have := HJ1.out; omega, HJD.out, HNEW.out, by rw [List.length_set]; exact HLN.out, fun i => ?_, HKN.out⟩
            rw [List.getElem?_set]
            by_cases e : m = i
            · subst e
              have hml : m < L2.length := by rw [← HRL.out, lsts_len, ← HN.out]; exact HMN.out
              rw [if_pos rfl, if_pos hml, if_pos (by have := HM.out; have := HJ1.out; omega), ← HQM.out]
              rfl
            · rw [if_neg e, HVL.out i]
              by_cases hc : a ≤ i + 1 ∧ i + 1 < j
              · rw [if_pos hc, if_pos (by omega)]
              · rw [if_neg hc, if_neg (by have := HM.out; omega)]
          case measure => have := HJD.out; simp [intOf]; omega
        · have HLK := hide (show Like L2 (changeP a d (fun q => withoutP q n) P) by
            obtain ⟨_, g2⟩ := change_law (fun q => withoutP q n) HG.out.nf HAD.out
            intro i
            rw [hval i, g2]
            have h1 := HL.out i
            by_cases c1 : a ≤ i + 1 ∧ i + 1 < j
            · unfold tgt
              rw [if_pos c1, if_pos (by omega), h1]
            · rw [if_neg c1]
              unfold tgt
              by_cases c2 : a ≤ i + 1 ∧ i + 1 < d
              · rw [if_pos c2, ← h1, List.getElem?_eq_none (by omega)]
                rfl
              · rw [if_neg c2, h1])
          obtain ⟨A, c, rfl, _⟩ := hr.inn.row.form
          have c0 : wr.cell? ⟨rb, 0, none⟩ = some (.slice A nn c) := by rw [hnn]; exact hr.box.cell 0
          by_cases hjd : j < d
          · have z1 : decide (j < d) = true := by simpa using hjd
            have z2 : decide ((j : Int) < (d : Int)) = true := by simp; omega
            have z3 : (j : Int) < (d : Int) := by omega
            have z4 : decide (j ≤ nn) = false := by simp; omega
            have z5 : decide ((j : Int) ≤ (nn : Int)) = false := by simp; omega
            have z6 : ¬ (j : Int) ≤ (nn : Int) := by omega
            clear ho hlen hval hkp hj1 hj2 hj hjd hr hrl hg hnn hnl
            go_wp2
            go_ret
            rw [HE.out.1, HE.out.2]
            exact ⟨rfl, ⟨L2, HO.out, HLK.out⟩, HKP.out⟩
          · have z1 : decide (j < d) = false := by simpa using hjd
            have z2 : decide ((j : Int) < (d : Int)) = false := by simp; omega
            have z3 : ¬ (j : Int) < (d : Int) := by omega
            clear ho hlen hval hkp hj1 hj2 hj hjd hr hrl hg hnn hnl
            go_wp2
            go_ret
            rw [HE.out.1, HE.out.2]
            exact ⟨rfl, ⟨L2, HO.out, HLK.out⟩, HKP.out⟩
  · rw [decide_eq_false hm] at HMA
    have HE := hide (show chkE fr en n = 3 ∧ takeP P fr en n = P by
      have hc : chkE fr en n = 3 := by
        unfold chkE
        rw [if_neg (show ¬ (1 ≤ fr ∧ fr ≤ en ∧ en ≤ 65537) from hm)]
      unfold takeP
      simp only [hc]
      exact ⟨trivial, rfl⟩)
    clear hm
    go_enter Try.func65, Try.ntmps65
    go_wp2_with (go_at_call 70; (with_reducible refine Calls.mono HMA.out ?_); rintro r w1 ⟨rfl, rfl⟩)
    go_ret
    rw [HE.out.1, HE.out.2]
    exact ⟨rfl, HS.out _ (Below.refl _ _)⟩
end
end Go.Proofs.Ytgiogmbopiblmaa
