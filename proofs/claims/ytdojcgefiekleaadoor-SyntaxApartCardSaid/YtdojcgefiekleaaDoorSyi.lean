/- Set of a table that takes the rule: the walk. No condition but those written. -/
import Derived.Test.YtdojcgefiekleaaDoorSyh
namespace Go.Proofs.YtdojcgefiekleaaDoor
open Go.RowKit

section
variable {w : World} {p : TL} {T : Tb}
set_option maxRecDepth 100000 in
set_option maxHeartbeats 4000000 in
theorem tset_ok (h : TabAt w p T) (c k m : Int) (hs : setOk c k m = true) : Calls Tryd.prog 28 #[.pointer (some ⟨p.t, 0, none⟩), .int .i64 c, .int .i64 k, .int .i64 m] w fun e w' => e = .returned (.int .i64 0) ∧ Only (· = p.ow) w w' ∧ TabAt w' p (T.set c k m) := by
  have HN := hide (none_some h)
  obtain ⟨M, hm, hM⟩ := h.own
  have HM := hide hm
  have HK := hide (ent_keys M)
  have c1 : w.cell? ⟨p.t, 1, none⟩ = some (.map (some p.ow)) := (h.blk.cell 1).trans rfl
  have HP := hide (fun (v : Int) (hv : v = if mated k then m else 0) (w2 : World) => h.put hM (w' := w2) hs hv)
  obtain ⟨b, hb⟩ : ∃ b, b = mated k := ⟨_, rfl⟩
  obtain ⟨d, hd⟩ : ∃ d, d = isCh m := ⟨_, rfl⟩
  unfold setOk at hs
  rw [← hb, ← hd] at hs
  simp only [Bool.and_eq_true, decide_eq_true_eq] at hs
  have HA := hide hs.1.1
  have h1 : ¬ k < 0 := by omega
  have h2 : ¬ 10 < k := by omega
  have hbd := hs.2
  have HB := hide hb.symm
  have HD := hide hd.symm
  clear hb hd h hs hm hM
  cases b
  · clear hbd
    go_enter Tryd.func28, Tryd.ntmps28
    go_wp2_with (first | (go_at_call 61; refine (Calls.mono HN.out) ?_; rintro e w' ⟨rfl, rfl⟩) | (go_at_call 62; refine (ris_any _ _).mono ?_; rintro e w' ⟨rfl, rfl⟩; first | rw [HA.out] | rw [HD.out]) | (go_at_call 63; refine (mated_any _ _).mono ?_; rintro e w' ⟨rfl, rfl⟩; rw [HB.out]) | (at_mapUpdate; go_loud (refine wpList_update_is rfl _ _ _ rfl Tryd.underlying73 Tryd.underlying3 rfl HM.out HK.out (.int .i64 c) rfl (.int _ _) (entV (k, 0)) rfl ?_); intro w2 hm2 ho2))
    go_ret
    exact ⟨rfl, ho2, HP.out 0 (by rw [HB.out]; rfl) _ hm2 ho2⟩
  · have hd : d = true := by simpa using hbd
    subst hd
    clear hbd
    go_enter Tryd.func28, Tryd.ntmps28
    go_wp2_with (first | (go_at_call 61; refine (Calls.mono HN.out) ?_; rintro e w' ⟨rfl, rfl⟩) | (go_at_call 62; refine (ris_any _ _).mono ?_; rintro e w' ⟨rfl, rfl⟩; first | rw [HA.out] | rw [HD.out]) | (go_at_call 63; refine (mated_any _ _).mono ?_; rintro e w' ⟨rfl, rfl⟩; rw [HB.out]) | (at_mapUpdate; go_loud (refine wpList_update_is rfl _ _ _ rfl Tryd.underlying73 Tryd.underlying3 rfl HM.out HK.out (.int .i64 c) rfl (.int _ _) (entV (k, m)) rfl ?_); intro w2 hm2 ho2))
    go_ret
    exact ⟨rfl, ho2, HP.out m (by rw [HB.out]; rfl) _ hm2 ho2⟩
end
end Go.Proofs.YtdojcgefiekleaaDoor
