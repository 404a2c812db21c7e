/- Variables: the methods on a set, seen as functions; do. No condition but those written. -/
import Derived.Test.YtempnakdpmmmoaaVgk
import Derived.Test.YtempnakdpmmmoaaVgb
namespace Go.Proofs.Ytempnakdpmmmoaa
open Go.RowKit
attribute [local go_sem] neq_cells eql_cells

def Vw.set (v : Vw) (n : Int) (c : Cel) : Vw := if v.chg n = 0 then v.put (v.plc n) n c else v
def Vw.sdf (v : Vw) (n : Int) (c : Cel) : Vw := if v.chg n = 0 then v.put 0 n c else v
def Vw.ssc (v : Vw) (k : Int) : Vw := if scpE k = 0 then v.scp k else v
def Vw.mkV (v : Vw) (n : Int) (c : Bool) : Vw := if chkV n = 0 then v.mrk n c else v
def Vw.bndE (v : Vw) (n : Int) : Int := if v.chg n ≠ 0 then v.chg n else if 2000 ≤ v.B.length then 12 else 0
def Vw.bnd (v : Vw) (n : Int) (c : Cel) (g1 g2 : Nat) : Vw := if v.bndE n = 0 then (v.put (v.plc n) n c).note ⟨v.now n, n, v.plc n, g1, g2⟩ else v
theorem bnd_0 {v : Vw} {n : Int} (h : v.bndE n = 0) (c : Cel) (g1 g2 : Nat) : v.bnd n c g1 g2 = (v.put (v.plc n) n c).note ⟨v.now n, n, v.plc n, g1, g2⟩ := if_pos h
theorem bnd_no {v : Vw} {n : Int} (h : v.bndE n ≠ 0) (c : Cel) (g1 g2 : Nat) : v.bnd n c g1 g2 = v := if_neg h
def Vw.unbE (v : Vw) (d : Int) : Int := if 0 ≤ d ∧ d ≤ (v.B.length : Int) then 0 else 3
def Vw.unbV (v : Vw) (d : Int) : Vw := if v.unbE d = 0 then v.unb d.toNat else v
section
variable {W w w' : World} {b : Vb} {s : Vst} {R : Heap}
set_option maxRecDepth 100000 in
set_option maxHeartbeats 1000000 in
theorem bind_bad (h : VarsAt W w b s R) (n : Int) (h0 : chgV s n ≠ 0) (k m : Int) : Calls Try.prog 10 #[.pointer (some ⟨b.vb, 0, none⟩), .int .i64 n, .agg #[.int .i64 k, .int .i64 m]] w
    fun r w' => r = .returned (.int .i64 (chgV s n)) ∧ VarsAt W w' b s R := by
  have h1 := (h.skip (.cells #[.int .i64 n] 3)).skip (.cells #[.int .i64 k, .int .i64 m] 29)
  have HC := change_any h1 n
  obtain ⟨E, hE⟩ : ∃ E, E = chgV s n := ⟨_, rfl⟩
  rw [← hE] at HC h0 ⊢
  have HC := hide HC
  have HS := hide h1
  have z1 : decide (E = 0) = false := by simpa using h0
  have z2 : (E == 0) = false := by simpa using h0
  have z4 : (E != 0) = true := by simpa using h0
  have z3 : ¬ E = 0 := h0
  clear h h1 hE
  go_enter Try.func10, Try.ntmps10
  go_wp2_with fail
  refine (Calls.mono (HC.out)) ?_
  rintro e w2 ⟨rfl, rfl⟩
  go_wp2
  go_ret
  exact ⟨rfl, HS.out⟩
set_option maxRecDepth 100000 in
set_option maxHeartbeats 1000000 in
theorem bind_full (h : VarsAt W w b s R) (n : Int) (h0 : chgV s n = 0) (hd : 2000 ≤ s.notes.length) (k m : Int) : Calls Try.prog 10 #[.pointer (some ⟨b.vb, 0, none⟩), .int .i64 n, .agg #[.int .i64 k, .int .i64 m]] w
    fun r w' => r = .returned (.int .i64 12) ∧ VarsAt W w' b s R := by
  have h1 := (h.skip (.cells #[.int .i64 n] 3)).skip (.cells #[.int .i64 k, .int .i64 m] 29)
  have HC := change_any h1 n
  rw [h0] at HC
  have HC := hide HC
  have HS := hide h1
  obtain ⟨A, c, hv, _⟩ := h.sl.form
  have q3 : ((w.alloc (.cells #[.int .i64 n] 3)).alloc (.cells #[.int .i64 k, .int .i64 m] 29)).cell? ⟨b.vb, 3, none⟩ = some (.slice A s.notes.length c) := by rw [h1.vb.cell, ← hv]; rfl
  have hz : decide ((2000 : Int) ≤ (s.notes.length : Int)) = true := by simp; omega
  clear h h1 h0 hv hd
  go_enter Try.func10, Try.ntmps10
  go_wp2_with fail
  refine (Calls.mono (HC.out)) ?_
  rintro e w2 ⟨rfl, rfl⟩
  go_wp2
  go_ret
  exact ⟨rfl, HS.out⟩
theorem plc_view {s : Vst} (n : Int) : s.view.plc n = if (s.lcl s.scope n).isSome then s.scope else 0 := by
  unfold Vw.plc
  rw [view_l, Option.isSome_map]
  rfl
/-- A store at the place that a variable has now. -/
theorem placed_put (ok : s.Ok) {n : Int} {g : Nat} (c : Cel) (h0 : VarsAt W w b s R) (h : VarsAt W w' b ((s.placed n g).upd g c) R) (ha : (s.placed n g).at_ n g) : ((s.placed n g).upd g c).view = s.view.put (s.view.plc n) n c := by
  cases he : s.lcl s.scope n with
  | some e =>
    have hp : s.placed n g = s := by unfold Vst.placed; rw [he]; rfl
    rw [hp] at h ha ⊢
    unfold Vst.at_ at ha
    rw [he] at ha
    obtain rfl : e.g = g := ha
    rw [plc_view, he]
    exact upd_loc h0 ok he c
  | none =>
    have hp : s.placed n g = s.glob n g := by unfold Vst.placed; rw [he]; rfl
    rw [hp] at h ha ⊢
    unfold Vst.at_ at ha
    rw [glob_lcl, glob_scope, he] at ha
    obtain ⟨c0, hf⟩ := ha
    rw [plc_view, he]
    show _ = s.view.put 0 n c
    rw [upd_def h hf, glob_view]
end
section
variable {W w w' : World} {vb : Nat} {v : Vw} {R : Heap}
theorem VZ.below (h : VZ W w vb v R) (hb : Below w.heap.size w w') : VZ W w' vb v R := by
  obtain ⟨b, s, h1, h2, h3⟩ := h.at_
  exact ⟨b, s, h1, h2.below hb, h3⟩
theorem VZ.bel (h : VZ W w vb v R) : Below W.heap.size W w := by
  obtain ⟨b, s, h1, h2, h3⟩ := h.at_
  exact h2.own.bel
theorem VZ.drewN (h : VZ W w vb v R) (n : Nat) : VZ W (w.drewN n) vb v R := by
  obtain ⟨b, s, h1, h2, h3⟩ := h.at_
  exact ⟨b, s, h1, h2.drewN n, h3⟩
theorem VZ.blk (h : VZ W w vb v R) {g : Nat} {t : TypeId} {cs : Array Value} (hg : (g, Ast.cells t cs) ∈ R) : Blk w g t cs := by
  obtain ⟨b, s, h1, h2, h3⟩ := h.at_
  exact h2.boxAt hg
theorem VZ.box (h : VZ W w vb v R) (t : TypeId) (cs : Array Value) : VZ W (w.alloc (.cells cs t)) vb v ((w.heap.size, .cells t cs) :: R) := by
  obtain ⟨b, s, h1, h2, h3⟩ := h.at_
  exact ⟨b, s, h1, h2.box t cs, h3⟩
theorem VZ.sub {R' : Heap} (h : VZ W w vb v R) (hs : R'.Sublist R) : VZ W w vb v R' := by
  obtain ⟨b, s, h1, h2, h3⟩ := h.at_
  exact ⟨b, s, h1, h2.sub hs, h3⟩
theorem VZ.set (h : VZ W w vb v R) (n k m : Int) : Calls Try.prog 15 #[.pointer (some ⟨vb, 0, none⟩), .int .i64 n, .agg #[.int .i64 k, .int .i64 m]] w
    fun r w' => r = .returned (.int .i64 (v.chg n)) ∧ VZ W w' vb (v.set n ⟨k, m, true⟩) R := by
  obtain ⟨b, s, rfl, hV, ok, rfl⟩ := h.at_
  unfold Vw.set
  by_cases h0 : s.view.chg n = 0
  · rw [if_pos h0, h0]
    refine (set_0 hV n h0 k m).mono ?_
    rintro r w' ⟨rfl, g, hV', ha⟩
    exact ⟨rfl, b, _, rfl, hV', upd_ok (placed_ok ok (chg_var h0) g) _ _, placed_put ok _ hV hV' ha⟩
  · rw [if_neg h0]
    exact (set_bad hV n h0 k m).mono fun _ _ hb => ⟨hb.1, hb.2.vz ok⟩
theorem VZ.clear (h : VZ W w vb v R) (n : Int) : Calls Try.prog 20 #[.pointer (some ⟨vb, 0, none⟩), .int .i64 n] w
    fun r w' => r = .returned (.int .i64 (v.chg n)) ∧ VZ W w' vb (v.set n Cel.zero) R := by
  obtain ⟨b, s, rfl, hV, ok, rfl⟩ := h.at_
  unfold Vw.set
  by_cases h0 : s.view.chg n = 0
  · rw [if_pos h0, h0]
    refine (clear_0 hV n h0).mono ?_
    rintro r w' ⟨rfl, g, hV', ha⟩
    exact ⟨rfl, b, _, rfl, hV', upd_ok (placed_ok ok (chg_var h0) g) _ _, placed_put ok _ hV hV' ha⟩
  · rw [if_neg h0]
    exact (clear_bad hV n h0).mono fun _ _ hb => ⟨hb.1, hb.2.vz ok⟩
theorem VZ.setdefault (h : VZ W w vb v R) (n k m : Int) : Calls Try.prog 23 #[.pointer (some ⟨vb, 0, none⟩), .int .i64 n, .agg #[.int .i64 k, .int .i64 m]] w
    fun r w' => r = .returned (.int .i64 (v.chg n)) ∧ VZ W w' vb (v.sdf n ⟨k, m, true⟩) R := by
  obtain ⟨b, s, rfl, hV, ok, rfl⟩ := h.at_
  unfold Vw.sdf
  by_cases h0 : s.view.chg n = 0
  · rw [if_pos h0, h0]
    refine (setdefault_0 hV n h0 k m).mono ?_
    rintro r w' ⟨rfl, g, hV', hf⟩
    exact ⟨rfl, b, _, rfl, hV', upd_ok (glob_ok ok (chg_var h0) g) _ _, by rw [upd_def hV' hf, glob_view]⟩
  · rw [if_neg h0]
    exact (setdefault_bad hV n h0 k m).mono fun _ _ hb => ⟨hb.1, hb.2.vz ok⟩
theorem VZ.get (h : VZ W w vb v R) (n : Int) : Calls Try.prog 13 #[.pointer (some ⟨vb, 0, none⟩), .int .i64 n] w
    fun r w' => r = .returned (.tuple #[.agg #[.int .i64 (v.now n).k, .int .i64 (v.now n).n], .bool (v.now n).b]) ∧ VZ W w' vb v R := by
  obtain ⟨b, s, rfl, hV, ok, rfl⟩ := h.at_
  rw [view_now]
  by_cases hn : varN n
  · refine (get_ok hV n hn).mono ?_
    rintro r w' ⟨rfl, g, hV', ha⟩
    exact ⟨rfl, b, _, rfl, hV', placed_ok ok hn g, placed_view s n g⟩
  · have e : s.now n = Cel.zero := by
      have hv := view_ok ok
      rw [← view_now]
      unfold Vw.now
      cases hl : s.view.l s.view.S n with
      | none => exact hv.dr n hn
      | some c => exact absurd (hv.lr _ _ (by rw [hl]; rfl)).2 hn
    rw [e]
    refine (get_bad hV n hn).mono ?_
    rintro r w' ⟨rfl, hb⟩
    exact ⟨rfl, (hV.below hb).vz ok⟩
theorem VZ.depth (h : VZ W w vb v R) : Calls Try.prog 14 #[.pointer (some ⟨vb, 0, none⟩)] w fun e w' => e = .returned (.int .i64 (v.B.length : Int)) ∧ w = w' := by
  obtain ⟨b, s, rfl, hV, ok, rfl⟩ := h.at_
  exact depth_any hV
theorem VZ.scope (h : VZ W w vb v R) : Calls Try.prog 28 #[.pointer (some ⟨vb, 0, none⟩)] w fun e w' => e = .returned (.int .i64 v.S) ∧ w = w' := by
  obtain ⟨b, s, rfl, hV, ok, rfl⟩ := h.at_
  exact scope_any hV
theorem VZ.setscope (h : VZ W w vb v R) (k : Int) : Calls Try.prog 16 #[.pointer (some ⟨vb, 0, none⟩), .int .i64 k] w
    fun r w' => r = .returned (.int .i64 (scpE k)) ∧ VZ W w' vb (v.ssc k) R := by
  obtain ⟨b, s, rfl, hV, ok, rfl⟩ := h.at_
  by_cases h0 : k = 0
  · subst h0
    refine (setscope_zero hV).mono ?_
    rintro r w' ⟨rfl, hV'⟩
    exact ⟨rfl, b, _, rfl, hV', ok.scope (by omega), rfl⟩
  · by_cases h1 : scpK k
    · have e : scpE k = 0 := if_pos (.inr h1)
      unfold Vw.ssc
      rw [if_pos e, e]
      refine (setscope_ok hV k h1).mono ?_
      rintro r w' ⟨rfl, hV'⟩
      exact ⟨rfl, b, _, rfl, hV', ok.scope (by unfold scpK at h1; omega), rfl⟩
    · have h2 : ¬ (k = 0 ∨ scpK k) := fun e => e.elim h0 h1
      have e : scpE k = 3 := if_neg h2
      unfold Vw.ssc
      rw [e, if_neg (by decide)]
      exact (setscope_bad hV k h2).mono fun _ _ hb => ⟨hb.1, hb.2 ▸ hV.vz ok⟩
theorem mark_view (s : Vst) (n : Int) (c : Bool) : (s.mark n c).view = s.view.mrk n c := by
  refine Vw.ext rfl rfl (funext fun q => ?_) rfl rfl
  exact putM_fnd n _ q s.marks
theorem VZ.special_ (h : VZ W w vb v R) (n : Int) : Calls Try.prog 45 #[.pointer (some ⟨vb, 0, none⟩), .int .i64 n] w
    fun r w' => r = .returned (.int .i64 (chkV n)) ∧ VZ W w' vb (v.mkV n false) R := by
  obtain ⟨b, s, rfl, hV, ok, rfl⟩ := h.at_
  unfold Vw.mkV chkV
  by_cases hn : varN n
  · rw [if_pos hn, if_pos rfl]
    refine (markspecial_ok hV n hn).mono ?_
    rintro r w' ⟨rfl, hV'⟩
    exact ⟨rfl, b, _, rfl, hV', ⟨ok.dn, ok.dr, ok.ln, ok.lr, ok.en, ok.sc, ok.ns, ok.nl⟩, mark_view s n false⟩
  · rw [if_neg hn, if_neg (by decide)]
    exact (mark_bad hV n hn).1.mono fun _ _ hb => ⟨hb.1, hb.2 ▸ hV.vz ok⟩
theorem VZ.const_ (h : VZ W w vb v R) (n : Int) : Calls Try.prog 17 #[.pointer (some ⟨vb, 0, none⟩), .int .i64 n] w
    fun r w' => r = .returned (.int .i64 (chkV n)) ∧ VZ W w' vb (v.mkV n true) R := by
  obtain ⟨b, s, rfl, hV, ok, rfl⟩ := h.at_
  unfold Vw.mkV chkV
  by_cases hn : varN n
  · rw [if_pos hn, if_pos rfl]
    refine (markconst_ok hV n hn).mono ?_
    rintro r w' ⟨rfl, hV'⟩
    exact ⟨rfl, b, _, rfl, hV', ⟨ok.dn, ok.dr, ok.ln, ok.lr, ok.en, ok.sc, ok.ns, ok.nl⟩, mark_view s n true⟩
  · rw [if_neg hn, if_neg (by decide)]
    exact (mark_bad hV n hn).2.mono fun _ _ hb => ⟨hb.1, hb.2 ▸ hV.vz ok⟩
theorem note_ok {s : Vst} (ok : s.Ok) {x : Nte} (hn : varN x.n) (hs : 0 ≤ x.s ∧ x.s ≤ 65536) (hl : s.notes.length < 2000) : (s.addNote x).Ok := by
  refine ⟨ok.dn, ok.dr, ok.ln, ok.lr, ok.en, ok.sc, fun y hy => ?_, ?_⟩
  · rcases List.mem_append.1 hy with hy | hy
    · exact ok.ns y hy
    · obtain rfl := List.mem_singleton.1 hy
      exact ⟨hn, hs⟩
  · show (s.notes ++ [x]).length ≤ 2000
    rw [List.length_append]
    show s.notes.length + 1 ≤ 2000
    omega
theorem VZ.bind (h : VZ W w vb v R) (n k m : Int) : Calls Try.prog 10 #[.pointer (some ⟨vb, 0, none⟩), .int .i64 n, .agg #[.int .i64 k, .int .i64 m]] w
    fun r w' => r = .returned (.int .i64 (v.bndE n)) ∧ ∃ g1 g2, VZ W w' vb (v.bnd n ⟨k, m, true⟩ g1 g2) R := by
  obtain ⟨b, s, rfl, hV, ok, rfl⟩ := h.at_
  by_cases h0 : s.view.chg n = 0
  · by_cases hf : 2000 ≤ s.view.B.length
    · have e : s.view.bndE n = 12 := by unfold Vw.bndE; rw [if_neg (by simp [h0]), if_pos hf]
      rw [e]
      exact (bind_full hV n h0 hf k m).mono fun _ _ hb => ⟨hb.1, 0, 0, by rw [bnd_no (by rw [e]; decide)]; exact hb.2.vz ok⟩
    · have e : s.view.bndE n = 0 := by unfold Vw.bndE; rw [if_neg (by simp [h0]), if_neg hf]
      have hlen : s.notes.length < 2000 := Nat.lt_of_not_le hf
      rw [e]
      cases he : s.lcl s.scope n with
      | none =>
        refine (bind_glob hV n (fun h1 => by have h2 := change_any h1 n; rwa [show chgV s n = 0 from h0] at h2) hlen he k m).mono ?_
        rintro r w' ⟨rfl, g, g1, g2, nv, hfd, hV'⟩
        refine ⟨rfl, g1, g2, b.withNv nv, _, rfl, hV', ?_, ?_⟩
        · refine upd_ok (note_ok (glob_ok ok (chg_var h0) g) (chg_var h0) (by show (0 : Int) ≤ 0 ∧ (0 : Int) ≤ 65536; omega) (by rw [glob_notes]; exact hlen)) _ _
        · have hp : s.view.plc n = 0 := by rw [plc_view, he]; rfl
          have hw : s.view.now n = s.dflt n := by rw [view_now]; unfold Vst.now; rw [he]
          rw [bnd_0 e, hp, hw, upd_def hV' (s := (s.glob n g).addNote ⟨s.dflt n, n, 0, g1, g2⟩) hfd]
          have h9 := glob_view s n g
          rw [put_zero, put_zero]
          refine Vw.ext (funext fun q => ?_) ?_ ?_ ?_ ?_
          · show (if q = n then _ else (s.glob n g).view.d q) = _
            rw [h9]; rfl
          · show (s.glob n g).view.l = _
            rw [h9]; rfl
          · show (s.glob n g).view.m = _
            rw [h9]; rfl
          · show (s.glob n g).view.B ++ [_] = _
            rw [h9]; rfl
          · show (s.glob n g).view.S = _
            rw [h9]; rfl
      | some en =>
        refine (bind_loc hV n (fun h1 => by have h2 := change_any h1 n; rwa [show chgV s n = 0 from h0] at h2) hlen he k m).mono ?_
        rintro r w' ⟨rfl, g1, g2, nv, hV'⟩
        refine ⟨rfl, g1, g2, b.withNv nv, _, rfl, hV', ?_, ?_⟩
        · exact upd_ok (note_ok ok (chg_var h0) ok.sc hlen) _ _
        · have hp : s.view.plc n = s.scope := by rw [plc_view, he]; rfl
          have hw : s.view.now n = en.c := by rw [view_now]; unfold Vst.now; rw [he]
          have hk0 : s.scope ≠ 0 := by
            have := ((view_ok ok).lr s.scope n (by rw [view_l, he]; rfl)).1
            omega
          rw [bnd_0 e, hp, hw]
          have h9 := upd_loc hV ok he ⟨k, m, true⟩
          rw [put_scope hk0] at h9 ⊢
          refine Vw.ext ?_ ?_ rfl rfl rfl
          · show (s.upd en.g ⟨k, m, true⟩).view.d = _
            rw [h9]; rfl
          · show (s.upd en.g ⟨k, m, true⟩).view.l = _
            rw [h9]; rfl
  · have e : s.view.bndE n = s.view.chg n := if_pos h0
    rw [e]
    exact (bind_bad hV n h0 k m).mono fun _ _ hb => ⟨hb.1, 0, 0, by rw [bnd_no (by rw [e]; exact h0)]; exact hb.2.vz ok⟩
theorem VZ.unbind (h : VZ W w vb v R) (d : Int) : Calls Try.prog 12 #[.pointer (some ⟨vb, 0, none⟩), .int .i64 d] w
    fun r w' => r = .returned (.int .i64 (v.unbE d)) ∧ VZ W w' vb (v.unbV d) R := by
  obtain ⟨b, s, rfl, hV, ok, rfl⟩ := h.at_
  unfold Vw.unbV
  by_cases hd : 0 ≤ d ∧ d ≤ (s.view.B.length : Int)
  · have e : s.view.unbE d = 0 := if_pos hd
    rw [e, if_pos rfl]
    obtain ⟨j, rfl⟩ := Int.eq_ofNat_of_zero_le hd.1
    refine (unbind_go hV ok j (by have := hd.2; have h3 : s.view.B.length = s.notes.length := rfl; omega)).mono ?_
    rintro r w' ⟨rfl, nv, s', hV', ok', hv'⟩
    exact ⟨rfl, b.withNv nv, s', rfl, hV', ok', hv'⟩
  · have e : s.view.unbE d = 3 := if_neg hd
    rw [e, if_neg (by decide)]
    exact (unbind_bad hV d hd).mono fun _ _ hb => ⟨hb.1, hb.2 ▸ hV.vz ok⟩
theorem VZ.kill (h : VZ W w vb v R) (n : Int) : Calls Try.prog 26 #[.pointer (some ⟨vb, 0, none⟩), .int .i64 n] w
    fun r w' => r = .returned (.int .i64 (v.kilE n)) ∧ VZ W w' vb (v.kilV n) R := by
  obtain ⟨b, s, rfl, hV, ok, rfl⟩ := h.at_
  unfold Vw.kilV
  by_cases hn : varN n
  · by_cases hs : s.scope = 0
    · have e : s.view.kilE n = 9 := by unfold Vw.kilE; rw [if_pos hn, if_pos (show s.view.S = 0 from hs)]
      rw [e, if_neg (by decide)]
      exact (kill_state hV n hn hs).mono fun _ _ hb => ⟨hb.1, hb.2 ▸ hV.vz ok⟩
    · have e : s.view.kilE n = 0 := by unfold Vw.kilE; rw [if_pos hn, if_neg (show ¬ s.view.S = 0 from hs)]
      rw [e, if_pos rfl]
      cases hx : fndL s.locs s.scope with
      | some x =>
        obtain ⟨l1, l2, hs1, hxk, h1⟩ := fndL_split hx
        refine (kill_any hV hs1 hxk h1 hs n hn).mono ?_
        rintro r w' ⟨rfl, hV'⟩
        have hok := ok.l
        rw [hs1] at hok
        have hxe := hok.en x (List.mem_append_right _ (List.mem_cons_self ..))
        refine ⟨rfl, b, _, rfl, hV', ok.withL (hok.mid ?_ fun e he => hxe.2 e (List.mem_of_mem_eraseP he)), ?_⟩
        · exact ((List.eraseP_sublist ..).map _).nodup hxe.1
        · refine Vw.ext rfl (funext fun j => funext fun q => ?_) rfl rfl rfl
          show ((s.withLocs (l1 ++ { x with es := delE x.es n } :: l2)).lcl j q).map (·.c) = if j = s.scope ∧ q = n then none else (s.lcl j q).map (·.c)
          rw [lcl_mid s (y := { x with es := delE x.es n }) (by show ∀ z ∈ l1, z.k ≠ x.k; rw [hxk]; exact h1)]
          have h2 := lcl_mid s (y := x) (l2 := l2) (by rw [hxk]; exact h1) j q
          rw [← hs1, withLocs_self] at h2
          rw [h2]
          show ((if j = x.k then fnd (delE x.es n) q else _).map (·.c)) = _
          rw [hxk]
          by_cases hj : j = s.scope
          · rw [if_pos hj, if_pos hj, fnd_del hxe.1]
            by_cases hq : q = n
            · rw [if_pos hq, if_pos ⟨hj, hq⟩]; rfl
            · rw [if_neg hq, if_neg fun e => hq e.2]
          · rw [if_neg hj, if_neg hj, if_neg fun e => hj e.1]
      | none =>
        refine (kill_none hV n hn hs hx).mono ?_
        rintro r w' ⟨rfl, hV'⟩
        refine ⟨rfl, b, s, rfl, hV', ok, Vw.ext rfl (funext fun j => funext fun q => ?_) rfl rfl rfl⟩
        show (s.lcl j q).map (·.c) = if j = s.scope ∧ q = n then none else (s.lcl j q).map (·.c)
        by_cases hj : j = s.scope ∧ q = n
        · rw [if_pos hj, hj.1]
          unfold Vst.lcl Vst.inner
          rw [hx]
          rfl
        · rw [if_neg hj]
  · have e : s.view.kilE n = 8 := if_neg hn
    rw [e, if_neg (by decide)]
    exact (kill_bad hV n hn).mono fun _ _ hb => ⟨hb.1, hb.2 ▸ hV.vz ok⟩
theorem slo_chg {v : Vw} {n q : Int} (h : v.sloE n q = 0) : v.chg n = 0 ∧ scpK q := by
  unfold Vw.sloE at h
  unfold Vw.chg
  split at h
  · next hn =>
    rw [if_pos hn]
    split at h
    · next hq =>
      split at h
      · cases h
      · next hm => exact ⟨if_neg hm, hq⟩
    · cases h
  · cases h
theorem VZ.setlocal (h : VZ W w vb v R) (n q k m : Int) : Calls Try.prog 22 #[.pointer (some ⟨vb, 0, none⟩), .int .i64 n, .int .i64 q, .agg #[.int .i64 k, .int .i64 m]] w
    fun r w' => r = .returned (.int .i64 (v.sloE n q)) ∧ VZ W w' vb (v.slo n q ⟨k, m, true⟩) R := by
  obtain ⟨b, s, rfl, hV, ok, rfl⟩ := h.at_
  unfold Vw.slo
  by_cases h0 : s.view.sloE n q = 0
  · obtain ⟨h1, hq⟩ := slo_chg h0
    rw [if_pos h0, h0]
    cases he : s.lcl q n with
    | some en =>
      refine (setlocal_old hV n h1 q hq he k m).mono ?_
      rintro r w' ⟨rfl, hV'⟩
      exact ⟨rfl, b, _, rfl, hV', upd_ok ok _ _, upd_loc hV ok he _⟩
    | none =>
      refine (setlocal_none hV ok n h1 q hq he k m).mono ?_
      rintro r w' ⟨rfl, s', h2, h3, h4⟩
      exact ⟨rfl, b, s', rfl, h2, h3, h4⟩
  · rw [if_neg h0]
    exact (setlocal_bad hV n q k m h0).mono fun _ _ hb => ⟨hb.1, hb.2.vz ok⟩
theorem VZ.drop (h : VZ W w vb v R) (k : Int) : Calls Try.prog 27 #[.pointer (some ⟨vb, 0, none⟩), .int .i64 k] w
    fun r w' => r = .returned (.int .i64 (drpE k)) ∧ VZ W w' vb (v.drpV k) R := by
  obtain ⟨b, s, rfl, hV, ok, rfl⟩ := h.at_
  unfold Vw.drpV drpE
  by_cases hk : scpK k
  · rw [if_pos hk, if_pos rfl]
    refine (drop_ok hV k hk).mono ?_
    rintro r w' ⟨rfl, hV'⟩
    refine ⟨rfl, b, _, rfl, hV', (ok.withL (ok.l.sub (List.eraseP_sublist ..))).scope ?_, Vw.ext rfl (funext fun j => funext fun q => ?_) rfl rfl rfl⟩
    · have := ok.sc
      split <;> omega
    · show ((s.withLocs (delX s.locs k)).lcl j q).map (·.c) = if j = k then none else (s.lcl j q).map (·.c)
      unfold Vst.lcl Vst.inner
      rw [withLocs_locs, fndL_del ok.ln]
      by_cases hj : j = k
      · rw [if_pos hj, if_pos hj]; rfl
      · rw [if_neg hj, if_neg hj]
  · rw [if_neg hk, if_neg (by decide)]
    exact (drop_bad hV k hk).mono fun _ _ hb => ⟨hb.1, hb.2 ▸ hV.vz ok⟩
end
end Go.Proofs.Ytempnakdpmmmoaa
