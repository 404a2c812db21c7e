/- A table and its copy. No condition but those written. -/
import Derived.Test.YtdojcgefiekleaaDoorSza
import Derived.Test.YtdojcgefiekleaaDoorSct
namespace Go.Proofs.YtdojcgefiekleaaDoor
open Go.RowKit

theorem set_at {T : Tb} {c k m : Int} (h : setOk c k m = true) (d : Int) : (T.set c k m).cl d = (if c = d then k else T.cl d) ∧ (T.set c k m).mate d = (if c = d then (if mated k then m else 0) else T.mate d) := by
  have hc : isCh c = true := by
    cases hc : isCh c
    · rw [setOk_eq hc rfl rfl] at h
      simp at h
    · rfl
  have e : (T.set c k m).ent d = if c = d then (k, if mated k then m else 0) else T.ent d := by
    unfold Tb.set
    rw [if_pos h]
    unfold Tb.ent
    by_cases hd : c = d
    · subst hd
      rw [hc]
      simp [pick]
    · have : pick d ((c, k, if mated k then m else 0) :: T.own) = pick d T.own := by simp [pick, hd]
      simp only [this]
      rw [if_neg hd]
  unfold Tb.cl Tb.mate
  rw [e]
  by_cases hd : c = d
  · simp [hd]
  · simp [hd]
theorem set_not {T : Tb} {c k m : Int} (h : setOk c k m = false) : T.set c k m = T := by
  unfold Tb.set
  rw [h]
  rfl
structure Duo (w0 w : World) (p q : TL) (T U : Tb) : Prop where
  bel : Below w0.heap.size w0 w
  a : TabAt w p T
  b : TabAt w q U
  ow : p.ow < q.ow
  sb : T.lisp = true → p.sb < q.ow
  ge : w0.heap.size ≤ q.ow
section
variable {w0 w w' : World} {p q : TL} {T U : Tb}
theorem Duo.below (h : Duo w0 w p q T U) (hb : Below w.heap.size w w') : Duo w0 w' p q T U := ⟨h.bel.trans (hb.mono h.bel.size), h.a.below hb, h.b.below hb, h.ow, h.sb, h.ge⟩
theorem Duo.made (hb : Below w0.heap.size w0 w) (ht : TabAt w p T) (hb2 : Below w.heap.size w w') (hq : TabAt w' ⟨w.heap.size + 1, w.heap.size, p.gs, p.sb⟩ T) : Duo w0 w' p ⟨w.heap.size + 1, w.heap.size, p.gs, p.sb⟩ T T := by
  obtain ⟨M, hm, _⟩ := ht.own
  exact ⟨hb.trans (hb2.mono hb.size), ht.below hb2, hq, hm.lt, fun hl => (ht.rule hl).2.lt, hb.size⟩
theorem Duo.setB (h : Duo w0 w p q T U) {U' : Tb} (ho : Only (· = q.ow) w w') (hq : TabAt w' q U') : Duo w0 w' p q T U' := by
  obtain ⟨M, hm, hM⟩ := h.a.own
  obtain ⟨N, hn, _⟩ := h.b.own
  have how := h.ow
  refine ⟨h.bel.trans (ho.below h.bel.size fun i e => by rw [e]; exact h.ge), ⟨h.a.blk.only ho fun e => hn.ne_blk h.a.blk e.symm, ⟨M, hm.only ho (by omega), hM⟩, fun hl => ?_, h.a.ok, h.a.ne⟩, hq, h.ow, h.sb, h.ge⟩
  obtain ⟨h1, h2⟩ := h.a.rule hl
  have := h.sb hl
  exact ⟨h1.only ho fun e => hn.ne_blk h1 e.symm, h2.only ho (by omega)⟩
theorem duo_set (h : Duo w0 w p q T U) (c k m : Int) : Calls Tryd.prog 28 #[.pointer (some ⟨q.t, 0, none⟩), .int .i64 c, .int .i64 k, .int .i64 m] w fun e w' => e = .returned (.int .i64 (setE c k m)) ∧ Duo w0 w' p q T (U.set c k m) ∧ ∀ g t cs, Blk w g t cs → Blk w' g t cs := by
  cases hs : setOk c k m
  · refine (tset_bad h.b c k m hs).mono ?_
    rintro e w' ⟨rfl, rfl⟩
    refine ⟨by unfold setE; rw [hs]; rfl, ?_⟩
    rw [set_not hs]
    exact ⟨h, fun _ _ _ h => h⟩
  · refine (tset_ok h.b c k m hs).mono ?_
    rintro e w' ⟨rfl, ho, ht⟩
    obtain ⟨N, hn, _⟩ := h.b.own
    exact ⟨by unfold setE; rw [hs]; rfl, h.setB ho ht, fun g t cs hk => hk.only ho fun e => hn.ne_blk hk e.symm⟩
theorem Duo.clA (h : Duo w0 w p q T U) (c : Int) : Calls Tryd.prog 16 #[.pointer (some ⟨p.t, 0, none⟩), .int .i64 c] w fun e w' => e = .returned (.int .i64 (T.cl c)) ∧ Below w.heap.size w w' := class_any h.a c
theorem Duo.maA (h : Duo w0 w p q T U) (c : Int) : Calls Tryd.prog 29 #[.pointer (some ⟨p.t, 0, none⟩), .int .i64 c] w fun e w' => e = .returned (.int .i64 (T.mate c)) ∧ Below w.heap.size w w' := mate_any h.a c
theorem Duo.clB (h : Duo w0 w p q T U) {c k : Int} (hk : U.cl c = k) : Calls Tryd.prog 16 #[.pointer (some ⟨q.t, 0, none⟩), .int .i64 c] w fun e w' => e = .returned (.int .i64 k) ∧ Below w.heap.size w w' := hk ▸ class_any h.b c
theorem Duo.maB (h : Duo w0 w p q T U) {c k : Int} (hk : U.mate c = k) : Calls Tryd.prog 29 #[.pointer (some ⟨q.t, 0, none⟩), .int .i64 c] w fun e w' => e = .returned (.int .i64 k) ∧ Below w.heap.size w w' := hk ▸ mate_any h.b c
end
end Go.Proofs.YtdojcgefiekleaaDoor
