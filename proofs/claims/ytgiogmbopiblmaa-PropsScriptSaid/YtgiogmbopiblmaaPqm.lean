/- do: an act performed. No condition but those written. -/
import Derived.Test.YtgiogmbopiblmaaPql
namespace Go.Proofs.Ytgiogmbopiblmaa
open Go.RowKit

theorem MRes.after {w w1 w' : World} {b : Nat} {sv : Value} {P' : List Pc} (h : MRes w1 b sv P' w') (hb : Below w.heap.size w w1) : MRes w b sv P' w' := by
  obtain ⟨sv', L', h1, h2, h3, h4⟩ := h
  exact ⟨sv', L', h1, h2, (Only.of_below hb).trans h3, fun g hg => (h4 g hg).imp id fun h => Nat.le_trans hb.size h⟩
/-- The error, and the pieces, behind an act. -/
def doE (P : List Pc) (a : Ac) : Int := if pickZ a.kd 8 = 0 ∨ pickZ a.kd 8 = 1 then putE P a.fr a.en (a.nm, a.k, a.v) else if pickZ a.kd 8 = 2 then chkE a.fr a.en a.nm else if pickZ a.kd 8 = 3 then insE P a.fr a.n else if pickZ a.kd 8 = 4 ∨ pickZ a.kd 8 = 5 then delE a.fr a.en else if pickZ a.kd 8 = 6 then pasteE P a.fr (sns a.S) else pasteE P a.n (cutS P a.fr a.en)
def doQ (P : List Pc) (a : Ac) : List Pc := if pickZ a.kd 8 = 0 ∨ pickZ a.kd 8 = 1 then putP P a.fr a.en (a.nm, a.k, a.v) else if pickZ a.kd 8 = 2 then takeP P a.fr a.en a.nm else if pickZ a.kd 8 = 3 then insQ P a.fr a.n else if pickZ a.kd 8 = 4 ∨ pickZ a.kd 8 = 5 then delQ P a.fr a.en else if pickZ a.kd 8 = 6 then pasteQ P a.fr (sns a.S) else pasteQ P a.n (cutS P a.fr a.en)
theorem doE_0 (P : List Pc) (a : Ac) (h : pickZ a.kd 8 = 0) : doE P a = putE P a.fr a.en (a.nm, a.k, a.v) := by simp [doE, h]
theorem doQ_0 (P : List Pc) (a : Ac) (h : pickZ a.kd 8 = 0) : doQ P a = putP P a.fr a.en (a.nm, a.k, a.v) := by simp [doQ, h]
theorem doE_1 (P : List Pc) (a : Ac) (h : pickZ a.kd 8 = 1) : doE P a = putE P a.fr a.en (a.nm, a.k, a.v) := by simp [doE, h]
theorem doQ_1 (P : List Pc) (a : Ac) (h : pickZ a.kd 8 = 1) : doQ P a = putP P a.fr a.en (a.nm, a.k, a.v) := by simp [doQ, h]
theorem doE_2 (P : List Pc) (a : Ac) (h : pickZ a.kd 8 = 2) : doE P a = chkE a.fr a.en a.nm := by simp [doE, h]
theorem doQ_2 (P : List Pc) (a : Ac) (h : pickZ a.kd 8 = 2) : doQ P a = takeP P a.fr a.en a.nm := by simp [doQ, h]
theorem doE_3 (P : List Pc) (a : Ac) (h : pickZ a.kd 8 = 3) : doE P a = insE P a.fr a.n := by simp [doE, h]
theorem doQ_3 (P : List Pc) (a : Ac) (h : pickZ a.kd 8 = 3) : doQ P a = insQ P a.fr a.n := by simp [doQ, h]
theorem doE_4 (P : List Pc) (a : Ac) (h : pickZ a.kd 8 = 4) : doE P a = delE a.fr a.en := by simp [doE, h]
theorem doQ_4 (P : List Pc) (a : Ac) (h : pickZ a.kd 8 = 4) : doQ P a = delQ P a.fr a.en := by simp [doQ, h]
theorem doE_5 (P : List Pc) (a : Ac) (h : pickZ a.kd 8 = 5) : doE P a = delE a.fr a.en := by simp [doE, h]
theorem doQ_5 (P : List Pc) (a : Ac) (h : pickZ a.kd 8 = 5) : doQ P a = delQ P a.fr a.en := by simp [doQ, h]
theorem doE_6 (P : List Pc) (a : Ac) (h : pickZ a.kd 8 = 6) : doE P a = pasteE P a.fr (sns a.S) := by simp [doE, h]
theorem doQ_6 (P : List Pc) (a : Ac) (h : pickZ a.kd 8 = 6) : doQ P a = pasteQ P a.fr (sns a.S) := by simp [doQ, h]
theorem doE_7 (P : List Pc) (a : Ac) (h : pickZ a.kd 8 = 7) : doE P a = pasteE P a.n (cutS P a.fr a.en) := by simp [doE, h]
theorem doQ_7 (P : List Pc) (a : Ac) (h : pickZ a.kd 8 = 7) : doQ P a = pasteQ P a.n (cutS P a.fr a.en) := by simp [doQ, h]
theorem cov_most (a : Int) : ∀ (l : List Sn) (m : Nat), (∀ s ∈ l, s.pr.length ≤ m) → ∀ x, cov a l x ≤ l.length * m
  | [], _, _, _ => Nat.zero_le _
  | s :: l, m, h, x => by
      have h1 := cov_most a l m (fun z hz => h z (List.mem_cons_of_mem _ hz)) x
      have h2 := h s (List.mem_cons_self ..)
      unfold cov
      rw [List.length_cons, Nat.add_mul, Nat.one_mul]
      split <;> omega
/-- Spans that lie apart. -/
theorem cov_nf (a by_ : Int) (N : Nat) : ∀ (l : List Pc) (b : Nat) (q : List Pr), Nf b q l → (∀ p ∈ l, p.pr.length ≤ N) → ∀ x : Nat, cov a (l.map fun p => (⟨(p.fr : Int) + by_, (p.to : Int) + by_, p.pr⟩ : Sn)) x ≤ N ∧ ((x : Int) < a + ((b : Int) + by_) - 1 → cov a (l.map fun p => (⟨(p.fr : Int) + by_, (p.to : Int) + by_, p.pr⟩ : Sn)) x = 0)
  | [], _, _, _, _, x => ⟨Nat.zero_le _, fun _ => rfl⟩
  | p :: l, b, q, hn, h, x => by
      obtain ⟨h1, h2, h3, h4, h5⟩ := hn
      obtain ⟨i1, i2⟩ := cov_nf a by_ N l p.to p.pr h5 (fun z hz => h z (List.mem_cons_of_mem _ hz)) x
      have hp := h p (List.mem_cons_self ..)
      rw [List.map_cons]
      unfold cov
      simp only []
      by_cases hc : a + ((p.fr : Int) + by_) - 1 ≤ (x : Int) ∧ (x : Int) < a + ((p.to : Int) + by_) - 1
      · rw [if_pos hc, i2 hc.2]
        exact ⟨by omega, fun hx => by omega⟩
      · rw [if_neg hc]
        refine ⟨by omega, fun hx => ?_⟩
        rw [i2 (by omega)]
section
variable {P : List Pc} {N : Nat}
theorem Good.cut (h : Good P N) (fr en : Nat) : Good (cutP fr en P) N := by
  obtain ⟨h1, _, _, _, h2⟩ := cut_inv fr en P h.nf
  refine Good.of h1 (fun x hx => ?_) fun x => ?_
  · rw [h2]
    split
    · exact h.ran x hx
    · rfl
  · rw [h2]
    split
    · exact h.at_ x
    · exact OkL.nil N
theorem cov_cut (h : Good P N) (a x y : Int) (z : Nat) : cov a (cutS P x y) z ≤ N := by
  unfold cutS spP
  split
  · have hc := h.cut x.toNat y.toNat
    exact (cov_nf a (1 - x) N _ 0 [] hc.nf hc.fits z).1
  · exact Nat.zero_le _
theorem cut_len (h : Good P N) (x y by_ : Int) : (spP P x y by_).length ≤ 65537 := by
  unfold spP
  split
  · rw [List.length_map]
    exact (h.cut x.toNat y.toNat).size
  · exact Nat.zero_le _
theorem cut_pr (h : Good P N) (x y by_ : Int) : ∀ s ∈ spP P x y by_, s.pr.length ≤ N := by
  unfold spP
  split
  · intro s hs
    obtain ⟨p, hp, rfl⟩ := List.mem_map.1 hs
    exact (h.cut x.toNat y.toNat).fits p hp
  · intro s hs
    cases hs
theorem pasteX_good {a d : Nat} (h1 : 1 ≤ a) (h2 : a ≤ d) (h3 : d ≤ 65537) : ∀ (l : List Pr) {P Q : List Pc} {M : Nat}, Good P M → pasteX a d l P = .inr Q → ∃ M', Good Q M'
  | [], P, Q, M, h, e => by
      injection e with e
      exact ⟨M, e ▸ h⟩
  | x :: l, P, Q, M, h, e => by
      unfold pasteX at e
      split at e
      · cases e
      · rename_i hx
        exact pasteX_good h1 h2 h3 l (h.change h1 h2 h3 (fun q hq => hq.with_ (by omega)) (Nat.le_succ M)) e
theorem pasteS_good {a : Int} : ∀ (S : List Sn) {P Q : List Pc} {M : Nat}, Good P M → pasteS a S P = .inr Q → ∃ M', Good Q M'
  | [], P, Q, M, h, e => by
      injection e with e
      exact ⟨M, e ▸ h⟩
  | s :: S, P, Q, M, h, e => by
      unfold pasteS at e
      split at e
      · rename_i hm
        cases hx : pasteX (a + s.lo - 1).toNat (a + s.hi - 1).toNat s.pr P with
        | inl r => rw [hx] at e; cases e
        | inr P' =>
          rw [hx] at e
          obtain ⟨m1, m2, m3⟩ := hm.2
          obtain ⟨M', hg⟩ := pasteX_good (by omega) (by omega) (by omega) s.pr h hx
          exact pasteS_good S hg e
      · cases e
theorem Good.pasteQ (h : Good P N) (hN : 64 ≤ N) (a : Int) (S : List Sn) : Good (pasteQ P a S) N := by
  unfold Go.Proofs.Ytgiogmbopiblmaa.pasteQ
  cases hr : pasteR P a S with
  | inl e => exact h
  | inr Q =>
    unfold pasteR at hr
    split at hr
    · cases hr
    · cases hs : pasteS a S P with
      | inl e => rw [hs] at hr; cases hr
      | inr Q' =>
        rw [hs] at hr
        obtain ⟨M, hg⟩ := pasteS_good S h hs
        cases hf : fullP Q' with
        | true =>
          have : (if fullP Q' = true then (.inl 7 : Int ⊕ List Pc) else .inr Q') = .inr Q := hr
          rw [hf, if_pos rfl] at this
          cases this
        | false =>
          have : (if fullP Q' = true then (.inl 7 : Int ⊕ List Pc) else .inr Q') = .inr Q := hr
          rw [hf, if_neg (by simp)] at this
          injection this with this
          subst this
          exact hg.cut64 hf hN
theorem Good.doQ (h : Good P N) (hN : 64 ≤ N) (a : Ac) : Good (doQ P a) N := by
  unfold Go.Proofs.Ytgiogmbopiblmaa.doQ
  split
  · exact h.putQ hN _ _ _
  · split
    · exact h.takeQ _ _ _
    · split
      · exact h.insQ _ _
      · split
        · exact h.delQ _ _
        · split
          · exact h.pasteQ hN _ _
          · exact h.pasteQ hN _ _
end
/-- An act whose spans may be read, few and small. -/
structure ActOk (W : World) (a : Ac) : Prop where
  rd : SnRd W a.sv a.S
  len : a.S.length ≤ 10
  pr : ∀ s ∈ a.S, s.1.pr.length ≤ 70
theorem ActOk.below {w w' : World} {a : Ac} (h : ActOk w a) (hb : Below w.heap.size w w') : ActOk w' a := ⟨h.rd.below hb, h.len, h.pr⟩
theorem ActOk.cov {w : World} {a : Ac} (h : ActOk w a) (x : Int) (z : Nat) : cov x (sns a.S) z ≤ 700 := by
  have h1 := cov_most x (sns a.S) 70 (fun s hs => by
    obtain ⟨p, hp, rfl⟩ := List.mem_map.1 hs
    exact h.pr p hp) z
  rw [sns_len] at h1
  have := h.len
  omega
section
variable {w : World} {b : Nat} {sv : Value} {L : List (Pc × Value)}
set_option maxRecDepth 100000 in
set_option maxHeartbeats 32000000 in
theorem do_any (h0 : PropsAt w b sv L) {P : List Pc} (hP : pcs L = P) (hg0 : Good P 64) (a : Ac) (ha : ActOk w a) :
    Calls Try.prog 28 #[.pointer (some ⟨b, 0, none⟩), .agg #[.int .i64 a.kd, .int .i64 a.fr, .int .i64 a.en, .int .i64 a.nm, .int .i64 a.n, .int .i64 a.k, .int .i64 a.v, a.sv]] w fun e w' => e = .returned (.int .i64 (doE P a)) ∧ MRes w b sv (doQ P a) w' := by
  obtain ⟨AS, cS, hsv, _⟩ := id ha.rd.row
  have hbx0 := below_box w (.cells #[.int .i64 a.kd, .int .i64 a.fr, .int .i64 a.en, .int .i64 a.nm, .int .i64 a.n, .int .i64 a.k, .int .i64 a.v, a.sv] 49)
  have HBX := hide hbx0
  have HBK := hide (Blk.new w 49 #[.int .i64 a.kd, .int .i64 a.fr, .int .i64 a.en, .int .i64 a.nm, .int .i64 a.n, .int .i64 a.k, .int .i64 a.v, a.sv])
  have h := h0.below hbx0
  have ha1 := ha.below hbx0
  have hg : Good (pcs L) 64 := by rw [hP]; exact hg0
  rw [← hP]
  have HRD := hide ha1.rd
  rw [hsv] at HBX HBK h ha1 HRD ⊢
  have HPK := hide (fun w => pick_any a.kd 8 w (by omega) (by omega))
  have hr := pickZ_range a.kd (k := 8) (by omega)
  have k0 := HBK.out.cell 0
  have k1 := HBK.out.cell 1
  have k2 := HBK.out.cell 2
  have k3 := HBK.out.cell 3
  have k4 := HBK.out.cell 4
  have k5 := HBK.out.cell 5
  have k6 := HBK.out.cell 6
  have k7 := HBK.out.cell 7
  have hk : pickZ a.kd 8 = 0 ∨ pickZ a.kd 8 = 1 ∨ pickZ a.kd 8 = 2 ∨ pickZ a.kd 8 = 3 ∨ pickZ a.kd 8 = 4 ∨ pickZ a.kd 8 = 5 ∨ pickZ a.kd 8 = 6 ∨ pickZ a.kd 8 = 7 := by omega
  clear hr hbx0 h0 ha hg0 hP
  rcases hk with hk | hk | hk | hk | hk | hk | hk | hk
  · -- kind 0
    rw [hk] at HPK
    have hq := doQ_0 (pcs L) a hk
    have he := doE_0 (pcs L) a hk
    rw [hq, he]
    have HM := hide (put_any h hg (by omega) a.fr a.en a.nm a.k a.v)
    clear hk hq he h hg
    go_enter Try.func28, Try.ntmps28
    go_wp2_with (first | (go_at_call 11; (with_reducible refine Calls.mono (HPK.out _) ?_); rintro r w2 ⟨rfl, rfl⟩) | (go_at_call 13; (with_reducible refine Calls.mono HM.out ?_); rintro r w3 ⟨rfl, hm⟩; have HR := hide hm; clear hm))
    go_ret
    exact ⟨rfl, HR.out.after HBX.out⟩
  · -- kind 1
    rw [hk] at HPK
    have hq := doQ_1 (pcs L) a hk
    have he := doE_1 (pcs L) a hk
    rw [hq, he]
    have HM := hide (put_any h hg (by omega) a.fr a.en a.nm a.k a.v)
    clear hk hq he h hg
    go_enter Try.func28, Try.ntmps28
    go_wp2_with (first | (go_at_call 11; (with_reducible refine Calls.mono (HPK.out _) ?_); rintro r w2 ⟨rfl, rfl⟩) | (go_at_call 13; (with_reducible refine Calls.mono HM.out ?_); rintro r w3 ⟨rfl, hm⟩; have HR := hide hm; clear hm))
    go_ret
    exact ⟨rfl, HR.out.after HBX.out⟩
  · -- kind 2
    rw [hk] at HPK
    have hq := doQ_2 (pcs L) a hk
    have he := doE_2 (pcs L) a hk
    rw [hq, he]
    have HM := hide (take_any h hg (by omega) a.fr a.en a.nm)
    clear hk hq he h hg
    go_enter Try.func28, Try.ntmps28
    go_wp2_with (first | (go_at_call 11; (with_reducible refine Calls.mono (HPK.out _) ?_); rintro r w2 ⟨rfl, rfl⟩) | (go_at_call 23; (with_reducible refine Calls.mono HM.out ?_); rintro r w3 ⟨rfl, hm⟩; have HR := hide hm; clear hm))
    go_ret
    exact ⟨rfl, HR.out.after HBX.out⟩
  · -- kind 3
    rw [hk] at HPK
    have hq := doQ_3 (pcs L) a hk
    have he := doE_3 (pcs L) a hk
    rw [hq, he]
    have HM := hide (inserted_any h hg (by omega) a.fr a.n)
    clear hk hq he h hg
    go_enter Try.func28, Try.ntmps28
    go_wp2_with (first | (go_at_call 11; (with_reducible refine Calls.mono (HPK.out _) ?_); rintro r w2 ⟨rfl, rfl⟩) | (go_at_call 19; (with_reducible refine Calls.mono HM.out ?_); rintro r w3 ⟨rfl, hm⟩; have HR := hide hm; clear hm))
    go_ret
    exact ⟨rfl, HR.out.after HBX.out⟩
  · -- kind 4
    rw [hk] at HPK
    have hq := doQ_4 (pcs L) a hk
    have he := doE_4 (pcs L) a hk
    rw [hq, he]
    have HM := hide (deleted_any h hg (by omega) a.fr a.en)
    clear hk hq he h hg
    go_enter Try.func28, Try.ntmps28
    go_wp2_with (first | (go_at_call 11; (with_reducible refine Calls.mono (HPK.out _) ?_); rintro r w2 ⟨rfl, rfl⟩) | (go_at_call 26; (with_reducible refine Calls.mono HM.out ?_); rintro r w3 ⟨rfl, hm⟩; have HR := hide hm; clear hm))
    go_ret
    exact ⟨rfl, HR.out.after HBX.out⟩
  · -- kind 5
    rw [hk] at HPK
    have hq := doQ_5 (pcs L) a hk
    have he := doE_5 (pcs L) a hk
    rw [hq, he]
    have HM := hide (deleted_any h hg (by omega) a.fr a.en)
    clear hk hq he h hg
    go_enter Try.func28, Try.ntmps28
    go_wp2_with (first | (go_at_call 11; (with_reducible refine Calls.mono (HPK.out _) ?_); rintro r w2 ⟨rfl, rfl⟩) | (go_at_call 26; (with_reducible refine Calls.mono HM.out ?_); rintro r w3 ⟨rfl, hm⟩; have HR := hide hm; clear hm))
    go_ret
    exact ⟨rfl, HR.out.after HBX.out⟩
  · -- kind 6
    rw [hk] at HPK
    have hq := doQ_6 (pcs L) a hk
    have he := doE_6 (pcs L) a hk
    rw [hq, he]
    have HKC := hide (fun (x : World) (hb : Blk x w.heap.size 49 #[.int .i64 a.kd, .int .i64 a.fr, .int .i64 a.en, .int .i64 a.nm, .int .i64 a.n, .int .i64 a.k, .int .i64 a.v, .slice AS a.S.length cS]) => (show x.cell? ⟨w.heap.size, 1, none⟩ = some (.int .i64 a.fr) ∧ x.cell? ⟨w.heap.size, 2, none⟩ = some (.int .i64 a.en) ∧ x.cell? ⟨w.heap.size, 4, none⟩ = some (.int .i64 a.n) ∧ x.cell? ⟨w.heap.size, 7, none⟩ = some (.slice AS a.S.length cS) from ⟨hb.cell 1, hb.cell 2, hb.cell 4, hb.cell 7⟩))
    have HSP := hide (spcopy_any (.slice AS a.S.length cS) a.S (w.alloc (.cells #[.int .i64 a.kd, .int .i64 a.fr, .int .i64 a.en, .int .i64 a.nm, .int .i64 a.n, .int .i64 a.k, .int .i64 a.v, .slice AS a.S.length cS] 49)).drew (HRD.out.below (Below.refl _ _).drew) (by have := ha1.len; omega) (fun s hs => Nat.le_trans (ha1.pr s hs) (by omega)))
    have HPA := hide (fun (x : World) (v : Value) (S2 : List (Sn × Value)) (hb : OutS (w.alloc (.cells #[.int .i64 a.kd, .int .i64 a.fr, .int .i64 a.en, .int .i64 a.nm, .int .i64 a.n, .int .i64 a.k, .int .i64 a.v, .slice AS a.S.length cS] 49)).drew x v S2) (e : sns S2 = sns a.S) => (show Calls Try.prog 17 #[.pointer (some ⟨b, 0, none⟩), .int .i64 a.fr, v] x (fun r y => r = .returned (.int .i64 (pasteE (pcs L) a.fr (sns a.S))) ∧ MRes x b sv (pasteQ (pcs L) a.fr (sns a.S)) y) from by
      have hl : S2.length ≤ 10 := by rw [← sns_len, e, sns_len]; exact ha1.len
      have := paste_any (D := 700) ((h.below (Below.refl _ _).drew).below hb.bel) hg v S2 hb.inn.rd a.fr (fun z => by rw [e]; exact ha1.cov a.fr z) (by omega) (by omega) (fun s hs => by
        have h1 : s.1 ∈ sns S2 := List.mem_map_of_mem hs
        rw [e] at h1
        obtain ⟨s', hs', e'⟩ := List.mem_map.1 h1
        have := ha1.pr s' hs'
        rw [← e']
        omega)
      rw [e] at this
      exact this))
    have HKEEP := hide (fun (x y : World) (hb : Below (w.alloc (.cells #[.int .i64 a.kd, .int .i64 a.fr, .int .i64 a.en, .int .i64 a.nm, .int .i64 a.n, .int .i64 a.k, .int .i64 a.v, .slice AS a.S.length cS] 49)).drew.heap.size (w.alloc (.cells #[.int .i64 a.kd, .int .i64 a.fr, .int .i64 a.en, .int .i64 a.nm, .int .i64 a.n, .int .i64 a.k, .int .i64 a.v, .slice AS a.S.length cS] 49)).drew x) (hm : MRes x b sv (pasteQ (pcs L) a.fr (sns a.S)) y) => (show KeepT isCode x y from by obtain ⟨sv2, L2, _, _, g3, _⟩ := hm; exact only_keep ((h.below (Below.refl _ _).drew).below hb) g3))
    clear hk hq he
    go_enter Try.func28, Try.ntmps28
    go_upto_region 13 with (go_at_call 11; (with_reducible refine Calls.mono (HPK.out _) ?_); rintro r w2 ⟨rfl, rfl⟩)
    have B11 := hide HBK.out.drew
    go_region_held3 (fun x => x.cell? ⟨w.heap.size, 1, none⟩ = some (.int .i64 a.fr) ∧ x.cell? ⟨w.heap.size, 2, none⟩ = some (.int .i64 a.en) ∧ x.cell? ⟨w.heap.size, 4, none⟩ = some (.int .i64 a.n) ∧ x.cell? ⟨w.heap.size, 7, none⟩ = some (.slice AS a.S.length cS))
      (first | exact HKC.out _ B11.out | exact HKC.out _ B12.out | exact HKC.out _ B13.out)
      ((first
        | (go_at_call 42; (with_reducible refine Calls.mono HSP.out ?_); rintro r w12 ⟨v12, S12, rfl, h12, e12⟩; have B12 := hide (B11.out.below h12.bel B11.out.lt); have H12 := hide h12; have E12 := hide e12; obtain ⟨A12, c12, rfl, _⟩ := h12.inn.row.form; clear h12 e12)
        | (go_at_call 17; (with_reducible refine Calls.mono (HPA.out _ _ _ H12.out E12.out) ?_); rintro r w13 ⟨rfl, h13⟩; have HR := hide h13; have B13 := hide ((HKEEP.out _ _ H12.out.bel h13).toBlk B12.out (by rintro (e | e) <;> cases e)); clear h13)))
    all_goals go_wp2
    all_goals (go_ret; exact ⟨rfl, HR.out.after ((HBX.out.drew).trans (H12.out.bel.mono HBX.out.drew.size))⟩)
  · -- kind 7
    rw [hk] at HPK
    have hq := doQ_7 (pcs L) a hk
    have he := doE_7 (pcs L) a hk
    rw [hq, he]
    have HKC := hide (fun (x : World) (hb : Blk x w.heap.size 49 #[.int .i64 a.kd, .int .i64 a.fr, .int .i64 a.en, .int .i64 a.nm, .int .i64 a.n, .int .i64 a.k, .int .i64 a.v, .slice AS a.S.length cS]) => (show x.cell? ⟨w.heap.size, 1, none⟩ = some (.int .i64 a.fr) ∧ x.cell? ⟨w.heap.size, 2, none⟩ = some (.int .i64 a.en) ∧ x.cell? ⟨w.heap.size, 4, none⟩ = some (.int .i64 a.n) ∧ x.cell? ⟨w.heap.size, 7, none⟩ = some (.slice AS a.S.length cS) from ⟨hb.cell 1, hb.cell 2, hb.cell 4, hb.cell 7⟩))
    have HCU := hide (Cut_any (h.below (Below.refl _ _).drew) hg (by omega) a.fr a.en)
    have HPA := hide (fun (x : World) (v : Value) (S2 : List (Sn × Value)) (hb : OutS (w.alloc (.cells #[.int .i64 a.kd, .int .i64 a.fr, .int .i64 a.en, .int .i64 a.nm, .int .i64 a.n, .int .i64 a.k, .int .i64 a.v, .slice AS a.S.length cS] 49)).drew x v S2) (e : sns S2 = cutS (pcs L) a.fr a.en) => (show Calls Try.prog 17 #[.pointer (some ⟨b, 0, none⟩), .int .i64 a.n, v] x (fun r y => r = .returned (.int .i64 (pasteE (pcs L) a.n (cutS (pcs L) a.fr a.en))) ∧ MRes x b sv (pasteQ (pcs L) a.n (cutS (pcs L) a.fr a.en)) y) from by
      have hl : S2.length ≤ 65537 := by rw [← sns_len, e]; exact cut_len hg _ _ _
      have := paste_any (D := 64) ((h.below (Below.refl _ _).drew).below hb.bel) hg v S2 hb.inn.rd a.n (fun z => by rw [e]; exact cov_cut hg a.n a.fr a.en z) (by omega) (by omega) (fun s hs => by
        have h1 : s.1 ∈ sns S2 := List.mem_map_of_mem hs
        rw [e] at h1
        have := cut_pr hg _ _ _ s.1 h1
        omega)
      rw [e] at this
      exact this))
    have HKEEP := hide (fun (x y : World) (hb : Below (w.alloc (.cells #[.int .i64 a.kd, .int .i64 a.fr, .int .i64 a.en, .int .i64 a.nm, .int .i64 a.n, .int .i64 a.k, .int .i64 a.v, .slice AS a.S.length cS] 49)).drew.heap.size (w.alloc (.cells #[.int .i64 a.kd, .int .i64 a.fr, .int .i64 a.en, .int .i64 a.nm, .int .i64 a.n, .int .i64 a.k, .int .i64 a.v, .slice AS a.S.length cS] 49)).drew x) (hm : MRes x b sv (pasteQ (pcs L) a.n (cutS (pcs L) a.fr a.en)) y) => (show KeepT isCode x y from by obtain ⟨sv2, L2, _, _, g3, _⟩ := hm; exact only_keep ((h.below (Below.refl _ _).drew).below hb) g3))
    clear hk hq he
    go_enter Try.func28, Try.ntmps28
    go_upto_region 14 with (go_at_call 11; (with_reducible refine Calls.mono (HPK.out _) ?_); rintro r w2 ⟨rfl, rfl⟩)
    have B11 := hide HBK.out.drew
    go_region_held3 (fun x => x.cell? ⟨w.heap.size, 1, none⟩ = some (.int .i64 a.fr) ∧ x.cell? ⟨w.heap.size, 2, none⟩ = some (.int .i64 a.en) ∧ x.cell? ⟨w.heap.size, 4, none⟩ = some (.int .i64 a.n) ∧ x.cell? ⟨w.heap.size, 7, none⟩ = some (.slice AS a.S.length cS))
      (first | exact HKC.out _ B11.out | exact HKC.out _ B12.out | exact HKC.out _ B13.out)
      ((first
        | (go_at_call 20; (with_reducible refine Calls.mono HCU.out ?_); rintro r w12 ⟨v12, S12, rfl, h12, e12⟩; have B12 := hide (B11.out.below h12.bel B11.out.lt); have H12 := hide h12; have E12 := hide e12; obtain ⟨A12, c12, rfl, _⟩ := h12.inn.row.form; clear h12 e12)
        | (go_at_call 17; (with_reducible refine Calls.mono (HPA.out _ _ _ H12.out E12.out) ?_); rintro r w13 ⟨rfl, h13⟩; have HR := hide h13; have B13 := hide ((HKEEP.out _ _ H12.out.bel h13).toBlk B12.out (by rintro (e | e) <;> cases e)); clear h13)))
    all_goals go_wp2
    all_goals (go_ret; exact ⟨rfl, HR.out.after ((HBX.out.drew).trans (H12.out.bel.mono HBX.out.drew.size))⟩)
end
end Go.Proofs.Ytgiogmbopiblmaa
