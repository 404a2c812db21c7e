/- do at no object. No condition but those written. -/
import Derived.Test.YtgiogmbopiblmaaPqr
namespace Go.Proofs.Ytgiogmbopiblmaa
open Go.RowKit

set_option maxRecDepth 100000 in
set_option maxHeartbeats 32000000 in
theorem do_nil (w : World) (a : Ac) (ha : ActOk w a) :
    Calls Try.prog 28 #[.pointer none, .agg #[.int .i64 a.kd, .int .i64 a.fr, .int .i64 a.en, .int .i64 a.nm, .int .i64 a.n, .int .i64 a.k, .int .i64 a.v, a.sv]] w fun e w' => e = .returned (.int .i64 1) ∧ Below w.heap.size w w' := by
  obtain ⟨AS, cS, hsv, _⟩ := id ha.rd.row
  have hbx0 := below_box w (.cells #[.int .i64 a.kd, .int .i64 a.fr, .int .i64 a.en, .int .i64 a.nm, .int .i64 a.n, .int .i64 a.k, .int .i64 a.v, a.sv] 49)
  have HBX := hide hbx0
  have HBK := hide (Blk.new w 49 #[.int .i64 a.kd, .int .i64 a.fr, .int .i64 a.en, .int .i64 a.nm, .int .i64 a.n, .int .i64 a.k, .int .i64 a.v, a.sv])
  have ha1 := ha.below hbx0
  have HRD := hide ha1.rd
  rw [hsv] at HBX HBK ha1 HRD ⊢
  have HPK := hide (fun w => pick_any a.kd 8 w (by omega) (by omega))
  have hr := pickZ_range a.kd (k := 8) (by omega)
  have k0 := HBK.out.cell 0
  have k1 := HBK.out.cell 1
  have k2 := HBK.out.cell 2
  have k3 := HBK.out.cell 3
  have k4 := HBK.out.cell 4
  have k5 := HBK.out.cell 5
  have k6 := HBK.out.cell 6
  have k7 := HBK.out.cell 7
  have hk : pickZ a.kd 8 = 0 ∨ pickZ a.kd 8 = 1 ∨ pickZ a.kd 8 = 2 ∨ pickZ a.kd 8 = 3 ∨ pickZ a.kd 8 = 4 ∨ pickZ a.kd 8 = 5 ∨ pickZ a.kd 8 = 6 ∨ pickZ a.kd 8 = 7 := by omega
  clear hr hbx0 ha
  rcases hk with hk | hk | hk | hk | hk | hk | hk | hk
  · -- kind 0
    rw [hk] at HPK
    clear hk ha1
    go_enter Try.func28, Try.ntmps28
    go_wp2_with (first | (go_at_call 11; (with_reducible refine Calls.mono (HPK.out _) ?_); rintro r w2 ⟨rfl, rfl⟩) | (go_at_call 13; (with_reducible refine Calls.mono (put_nil _ _ _ _ _ _) ?_); rintro r w3 ⟨rfl, b3⟩; have B3 := hide b3; clear b3))
    go_ret
    exact ⟨rfl, HBX.out.trans (B3.out.mono HBX.out.size)⟩
  · -- kind 1
    rw [hk] at HPK
    clear hk ha1
    go_enter Try.func28, Try.ntmps28
    go_wp2_with (first | (go_at_call 11; (with_reducible refine Calls.mono (HPK.out _) ?_); rintro r w2 ⟨rfl, rfl⟩) | (go_at_call 13; (with_reducible refine Calls.mono (put_nil _ _ _ _ _ _) ?_); rintro r w3 ⟨rfl, b3⟩; have B3 := hide b3; clear b3))
    go_ret
    exact ⟨rfl, HBX.out.trans (B3.out.mono HBX.out.size)⟩
  · -- kind 2
    rw [hk] at HPK
    clear hk ha1
    go_enter Try.func28, Try.ntmps28
    go_wp2_with (first | (go_at_call 11; (with_reducible refine Calls.mono (HPK.out _) ?_); rintro r w2 ⟨rfl, rfl⟩) | (go_at_call 23; (with_reducible refine Calls.mono (take_nil _ _ _ _) ?_); rintro r w3 ⟨rfl, b3⟩; have B3 := hide b3; clear b3))
    go_ret
    exact ⟨rfl, HBX.out.trans (B3.out.mono HBX.out.size)⟩
  · -- kind 3
    rw [hk] at HPK
    clear hk ha1
    go_enter Try.func28, Try.ntmps28
    go_wp2_with (first | (go_at_call 11; (with_reducible refine Calls.mono (HPK.out _) ?_); rintro r w2 ⟨rfl, rfl⟩) | (go_at_call 19; (with_reducible refine Calls.mono (inserted_nil _ _ _) ?_); rintro r w3 ⟨rfl, b3⟩; have B3 := hide b3; clear b3))
    go_ret
    exact ⟨rfl, HBX.out.trans (B3.out.mono HBX.out.size)⟩
  · -- kind 4
    rw [hk] at HPK
    clear hk ha1
    go_enter Try.func28, Try.ntmps28
    go_wp2_with (first | (go_at_call 11; (with_reducible refine Calls.mono (HPK.out _) ?_); rintro r w2 ⟨rfl, rfl⟩) | (go_at_call 26; (with_reducible refine Calls.mono (deleted_nil _ _ _) ?_); rintro r w3 ⟨rfl, b3⟩; have B3 := hide b3; clear b3))
    go_ret
    exact ⟨rfl, HBX.out.trans (B3.out.mono HBX.out.size)⟩
  · -- kind 5
    rw [hk] at HPK
    clear hk ha1
    go_enter Try.func28, Try.ntmps28
    go_wp2_with (first | (go_at_call 11; (with_reducible refine Calls.mono (HPK.out _) ?_); rintro r w2 ⟨rfl, rfl⟩) | (go_at_call 26; (with_reducible refine Calls.mono (deleted_nil _ _ _) ?_); rintro r w3 ⟨rfl, b3⟩; have B3 := hide b3; clear b3))
    go_ret
    exact ⟨rfl, HBX.out.trans (B3.out.mono HBX.out.size)⟩
  · -- kind 6
    rw [hk] at HPK
    have HKC := hide (fun (x : World) (hb : Blk x w.heap.size 49 #[.int .i64 a.kd, .int .i64 a.fr, .int .i64 a.en, .int .i64 a.nm, .int .i64 a.n, .int .i64 a.k, .int .i64 a.v, .slice AS a.S.length cS]) => (show x.cell? ⟨w.heap.size, 1, none⟩ = some (.int .i64 a.fr) ∧ x.cell? ⟨w.heap.size, 2, none⟩ = some (.int .i64 a.en) ∧ x.cell? ⟨w.heap.size, 4, none⟩ = some (.int .i64 a.n) ∧ x.cell? ⟨w.heap.size, 7, none⟩ = some (.slice AS a.S.length cS) from ⟨hb.cell 1, hb.cell 2, hb.cell 4, hb.cell 7⟩))
    have HSP := hide (spcopy_any (.slice AS a.S.length cS) a.S (w.alloc (.cells #[.int .i64 a.kd, .int .i64 a.fr, .int .i64 a.en, .int .i64 a.nm, .int .i64 a.n, .int .i64 a.k, .int .i64 a.v, .slice AS a.S.length cS] 49)).drew (HRD.out.below (Below.refl _ _).drew) (by have := ha1.len; omega) (fun s hs => Nat.le_trans (ha1.pr s hs) (by omega)))
    clear hk ha1
    go_enter Try.func28, Try.ntmps28
    go_upto_region 13 with (go_at_call 11; (with_reducible refine Calls.mono (HPK.out _) ?_); rintro r w2 ⟨rfl, rfl⟩)
    have B11 := hide HBK.out.drew
    go_region_held3 (fun x => x.cell? ⟨w.heap.size, 1, none⟩ = some (.int .i64 a.fr) ∧ x.cell? ⟨w.heap.size, 2, none⟩ = some (.int .i64 a.en) ∧ x.cell? ⟨w.heap.size, 4, none⟩ = some (.int .i64 a.n) ∧ x.cell? ⟨w.heap.size, 7, none⟩ = some (.slice AS a.S.length cS))
      (first | exact HKC.out _ B11.out | exact HKC.out _ B12.out | exact HKC.out _ B13.out)
      ((first
        | (go_at_call 42; (with_reducible refine Calls.mono (HSP.out) ?_); rintro r w12 ⟨v12, S12, rfl, h12, e12⟩; have B12 := hide (B11.out.below h12.bel B11.out.lt); have H12 := hide h12.bel; obtain ⟨A12, c12, rfl, _⟩ := h12.inn.row.form; clear h12 e12)
        | (go_at_call 17; (with_reducible refine Calls.mono (paste_nil _ _ _ _ _) ?_); rintro r w13 ⟨rfl, h13⟩; have HR := hide (H12.out.trans (h13.mono H12.out.size)); have B13 := hide (B12.out.below h13 B12.out.lt); clear h13)))
    all_goals go_wp2
    all_goals (go_ret; exact ⟨rfl, (HBX.out.drew).trans (HR.out.mono HBX.out.drew.size)⟩)
  · -- kind 7
    rw [hk] at HPK
    have HKC := hide (fun (x : World) (hb : Blk x w.heap.size 49 #[.int .i64 a.kd, .int .i64 a.fr, .int .i64 a.en, .int .i64 a.nm, .int .i64 a.n, .int .i64 a.k, .int .i64 a.v, .slice AS a.S.length cS]) => (show x.cell? ⟨w.heap.size, 1, none⟩ = some (.int .i64 a.fr) ∧ x.cell? ⟨w.heap.size, 2, none⟩ = some (.int .i64 a.en) ∧ x.cell? ⟨w.heap.size, 4, none⟩ = some (.int .i64 a.n) ∧ x.cell? ⟨w.heap.size, 7, none⟩ = some (.slice AS a.S.length cS) from ⟨hb.cell 1, hb.cell 2, hb.cell 4, hb.cell 7⟩))
    have H0 := hide (Below.refl (w.alloc (.cells #[.int .i64 a.kd, .int .i64 a.fr, .int .i64 a.en, .int .i64 a.nm, .int .i64 a.n, .int .i64 a.k, .int .i64 a.v, .slice AS a.S.length cS] 49)).drew.heap.size (w.alloc (.cells #[.int .i64 a.kd, .int .i64 a.fr, .int .i64 a.en, .int .i64 a.nm, .int .i64 a.n, .int .i64 a.k, .int .i64 a.v, .slice AS a.S.length cS] 49)).drew)
    clear hk ha1
    go_enter Try.func28, Try.ntmps28
    go_upto_region 14 with (go_at_call 11; (with_reducible refine Calls.mono (HPK.out _) ?_); rintro r w2 ⟨rfl, rfl⟩)
    have B11 := hide HBK.out.drew
    go_region_held3 (fun x => x.cell? ⟨w.heap.size, 1, none⟩ = some (.int .i64 a.fr) ∧ x.cell? ⟨w.heap.size, 2, none⟩ = some (.int .i64 a.en) ∧ x.cell? ⟨w.heap.size, 4, none⟩ = some (.int .i64 a.n) ∧ x.cell? ⟨w.heap.size, 7, none⟩ = some (.slice AS a.S.length cS))
      (first | exact HKC.out _ B11.out | exact HKC.out _ B12.out | exact HKC.out _ B13.out)
      ((first
        | (go_at_call 20; (with_reducible refine Calls.mono (Cut_nil _ _ _) ?_); rintro r w12 ⟨rfl, rfl⟩; have B12 := hide B11.out; have H12 := hide H0.out)
        | (go_at_call 17; (with_reducible refine Calls.mono (paste_nil _ _ _ _ _) ?_); rintro r w13 ⟨rfl, h13⟩; have HR := hide (H12.out.trans (h13.mono H12.out.size)); have B13 := hide (B12.out.below h13 B12.out.lt); clear h13)))
    all_goals go_wp2
    all_goals (go_ret; exact ⟨rfl, (HBX.out.drew).trans (HR.out.mono HBX.out.drew.size)⟩)
end Go.Proofs.Ytgiogmbopiblmaa
