/- A buffer: what lies where; is a place locked; the checks of a change. No condition but those written. -/
import Derived.Test.YtnbhejbpofjamaaGreatDoorBke
namespace Go.Proofs.YtnbhejbpofjamaaGreatDoor
open Go.RowKit

/-! ### No properties: nothing is locked -/
theorem results_row2 {fn : Func} {p u : Tmp} {ty : TypeId} {tmps : Array Value} {P : Program} {w : World} {a : Addr} {v x : Value} (h : fn.results = #[.cell p ty, .tmp u]) (hp : tmps.getD p undef = .pointer (some a)) (hl : (loadVar ty a).run P w = .ok v w) (hu : tmps.getD u undef = x) : (results fn tmps).run P w = .ok (.tuple #[v, x]) w := by
  rw [results_cell_tmp h, hp, hu]
  have : ((asAddr (.pointer (some a))).run P w) = .ok a w := by simp [asAddr]
  rw [this, Result.andThen_ok, hl, Result.andThen_ok]
set_option maxRecDepth 100000 in
set_option maxHeartbeats 4000000 in
theorem pbsf_any (at' : Int) (F : Value) (w : World) : Calls Tryz.prog 200 #[.slice none 0 0, .int .i64 at', F] w fun e w' => e = .returned (.tuple #[.int .i64 0, .bool false]) ∧ Below w.heap.size w w' := by
  go_enter Tryz.func200, Tryz.ntmps200
  go_wp2_with fail
  go_loopw [9, 10] (fun i j wr => i = .int .i64 0 ∧ j = .int .i64 0 ∧ wr = w) (fun _ _ _ => 0)
  case atStart => exact ⟨rfl, rfl, rfl⟩
  case round =>
    obtain ⟨rfl, rfl, rfl⟩ := hrel
    go_wp2
    go_ret2
    exact ⟨rfl, Below.refl _ _⟩
set_option maxRecDepth 100000 in
theorem pfirst_any (at' : Int) (w : World) : Calls Tryz.prog 199 #[.slice none 0 0, .int .i64 at'] w fun e w' => e = .returned (.int .i64 0) ∧ Below w.heap.size w w' := by
  go_enter Tryz.func199, Tryz.ntmps199
  go_wp2_with fail
  refine (Calls.mono (pbsf_any at' _ _)) ?_
  rintro e w1 ⟨rfl, b1⟩
  have HB := hide b1
  clear b1
  go_wp2_with fail
  go_ret
  exact ⟨rfl, HB.out⟩
set_option maxRecDepth 100000 in
theorem plist_any (pr : Nat) (at' : Int) (w : World) (h : Blk w pr 181 #[.slice none 0 0, .bool true]) : Calls Tryz.prog 190 #[.pointer (some ⟨pr, 0, none⟩), .int .i64 at'] w fun e w' => e = .returned (.slice none 0 0) ∧ Below w.heap.size w w' := by
  have c0 : w.cell? ⟨pr, 0, none⟩ = some (.slice none 0 0) := (h.cell 0).trans rfl
  have HN := hide (pnone_any pr w ((h.cell 1).trans rfl))
  have H := hide h
  clear h
  go_enter Tryz.func190, Tryz.ntmps190
  go_wp2_with fail
  refine (Calls.mono HN.out) ?_
  rintro e w1 ⟨rfl, rfl⟩
  go_wp2_with fail
  refine (Calls.mono (pfirst_any at' w)) ?_
  rintro e w1 ⟨rfl, b1⟩
  have HB := hide b1
  have d0 : w1.cell? ⟨pr, 0, none⟩ = some (.slice none 0 0) := ((H.out.below b1 H.out.lt).cell 0).trans rfl
  clear b1
  go_wp2_with fail
  go_ret
  exact ⟨rfl, HB.out⟩
set_option maxRecDepth 100000 in
set_option maxHeartbeats 4000000 in
theorem pget0_any (nm : Int) (w : World) : Calls Tryz.prog 189 #[.slice none 0 0, .int .i64 nm] w fun e w' => e = .returned (.tuple #[.agg #[.int .i64 0, .int .i64 0], .bool false]) ∧ Below w.heap.size w w' := by
  go_enter Tryz.func189, Tryz.ntmps189
  go_wp2_with fail
  go_loopw [10] (fun i wr => i = .int .i64 0 ∧ wr = w.alloc (.cells #[.int .i64 0, .int .i64 0] 159)) (fun _ _ => 0)
  case atStart => exact ⟨rfl, rfl⟩
  case round =>
    obtain ⟨rfl, rfl⟩ := hrel
    have HLD := hide (run_loadVar_row (P := Tryz.prog) _ w.heap.size 159 159 #[.int .i64 0, .int .i64 0] (0, 0) _ (Blk.new w 159 #[.int .i64 0, .int .i64 0]) Tryz.underlying159 rfl (by kernel_rfl))
    have HBL := hide ((Below.refl _ w).alloc (Nat.le_refl _) (.cells #[.int .i64 0, .int .i64 0] 159))
    go_wp2
    refine bodyPost_ret (results_row2 rfl rfl HLD.out rfl) rfl ?_
    exact ⟨rfl, HBL.out⟩
set_option maxRecDepth 100000 in
set_option maxHeartbeats 4000000 in
theorem pget_any (pr : Nat) (at' nm : Int) (w : World) (h : Blk w pr 181 #[.slice none 0 0, .bool true]) : Calls Tryz.prog 167 #[.pointer (some ⟨pr, 0, none⟩), .int .i64 at', .int .i64 nm] w fun e w' => e = .returned (.tuple #[.agg #[.int .i64 0, .int .i64 0], .bool false]) ∧ Below w.heap.size w w' := by
  have hB := (Below.refl _ w).alloc (Nat.le_refl _) (.cells #[.int .i64 0, .int .i64 0] 159)
  have HL := hide (plist_any pr at' _ (h.below hB h.lt))
  have HN := hide (Blk.new w 159 #[.int .i64 0, .int .i64 0])
  have HB0 := hide hB
  clear h hB
  go_enter Tryz.func167, Tryz.ntmps167
  go_wp2_with fail
  refine (Calls.mono HL.out) ?_
  rintro e w1 ⟨rfl, b1⟩
  have HN1 := hide (HN.out.below b1 HN.out.lt)
  have HB := hide (HB0.out.trans (b1.mono HB0.out.size))
  clear b1
  go_wp2_with fail
  refine (Calls.mono (pget0_any nm w1)) ?_
  rintro e w2 ⟨rfl, b2⟩
  have hn2 := HN1.out.below b2 HN1.out.lt
  have HB2 := hide (HB.out.trans (b2.mono HB.out.size))
  have k0 : w2.cell? ⟨w.heap.size, 0, none⟩ = some (.int .i64 0) := (hn2.cell 0).trans rfl
  have k1 : w2.cell? ⟨w.heap.size, 1, none⟩ = some (.int .i64 0) := (hn2.cell 1).trans rfl
  have f0 := hn2.frozen 0
  have f1 := hn2.frozen 1
  have HN2 := hide hn2
  clear b2 hn2
  have HLD := hide (run_loadVar_row (P := Tryz.prog) ((w2.setCell ⟨w.heap.size, 0, none⟩ (.int .i64 0)).setCell ⟨w.heap.size, 1, none⟩ (.int .i64 0)) w.heap.size 159 159 #[.int .i64 0, .int .i64 0] (0, 0) _ ((HN2.out.set_ 0 (.int .i64 0)).set_ 1 (.int .i64 0)) Tryz.underlying159 rfl (by kernel_rfl))
  go_wp2_with fail
  refine bodyPost_ret (results_row2 rfl rfl HLD.out rfl) rfl ?_
  exact ⟨rfl, (HB2.out.setCell (p := ⟨w.heap.size, 0, none⟩) (Nat.le_refl _) _).setCell (p := ⟨w.heap.size, 1, none⟩) (Nat.le_refl _) _⟩

/-! ### The buffer -/
/-- A buffer's cells: point (the text's end), the count of changes, is the log's group empty, the name of the property that locks, where its parts lie. -/
def bzC (pt tick : Nat) (fresh : Bool) (r : Int) (tb mk pr ov lb : Nat) : Array Value := #[.int .i64 (pt : Int), .int .i64 1, .int .i64 (pt : Int), .int .i64 0, .bool false, .bool false, .bool false, .int .i64 (tick : Int), .int .i64 0,
  .pointer (some ⟨tb, 0, none⟩), .pointer (some ⟨mk, 0, none⟩), .pointer (some ⟨pr, 0, none⟩), .pointer (some ⟨ov, 0, none⟩), .pointer (some ⟨lb, 0, none⟩), .bool true, .bool fresh, .int .i64 r, .slice none 0 0, .int .i64 0]
abbrev prC : Array Value := #[.slice none 0 0, .bool true]
section
variable {bp pt tick tb mk pr ov lb : Nat} {fresh : Bool} {r : Int}
theorem znone_any (w : World) (h : Blk w bp 104 (bzC pt tick fresh r tb mk pr ov lb)) : Calls Tryz.prog 62 #[.pointer (some ⟨bp, 0, none⟩)] w fun e w' => e = .returned (.bool false) ∧ w = w' := by
  have c9 : w.cell? ⟨bp, 9, none⟩ = some (.pointer (some ⟨tb, 0, none⟩)) := (h.cell 9).trans rfl
  clear h
  go_enter Tryz.func62, Tryz.ntmps62
  go_wp2
  go_ret
  exact ⟨rfl, rfl⟩
set_option maxRecDepth 100000 in
set_option maxHeartbeats 4000000 in
theorem locked_any (w : World) (h : Blk w bp 104 (bzC pt tick fresh r tb mk pr ov lb)) (hp : Blk w pr 181 prC) (a : Int) : Calls Tryz.prog 141 #[.pointer (some ⟨bp, 0, none⟩), .int .i64 a] w fun e w' => e = .returned (.bool false) ∧ Below w.heap.size w w' := by
  have c11 : w.cell? ⟨bp, 11, none⟩ = some (.pointer (some ⟨pr, 0, none⟩)) := (h.cell 11).trans rfl
  have c16 : w.cell? ⟨bp, 16, none⟩ = some (.int .i64 r) := (h.cell 16).trans rfl
  have HG := hide (fun w' (hb : Below w.heap.size w w') => pget_any pr a r w' (hp.below hb hp.lt))
  have HC := hide (fun w' (hb : Below w.heap.size w w') => (show w'.cell? ⟨bp, 11, none⟩ = some (.pointer (some ⟨pr, 0, none⟩)) ∧ w'.cell? ⟨bp, 16, none⟩ = some (.int .i64 r) from ⟨(hb.cell h.lt).trans c11, (hb.cell h.lt).trans c16⟩))
  clear h hp
  go_enter Tryz.func141, Tryz.ntmps141
  go_upto_region 1 with fail
  have HW := hide (fun (w' : World) (b1 : Below (w.alloc (.cells #[.int .i64 0, .int .i64 0] 159)).drew.heap.size (w.alloc (.cells #[.int .i64 0, .int .i64 0] 159)).drew w') => (show (w'.cell? ⟨w.heap.size, 0, none⟩ = some (.int .i64 0) ∧ w'.cell? ⟨w.heap.size, 1, none⟩ = some (.int .i64 0) ∧ w'.frozen? ⟨w.heap.size, 0, none⟩ = false ∧ w'.frozen? ⟨w.heap.size, 1, none⟩ = false) ∧ Below w.heap.size w w' from by
    have hn : Blk w' w.heap.size 159 #[.int .i64 0, .int .i64 0] := (Blk.new w 159 #[.int .i64 0, .int .i64 0]).drew.below b1 (by simp)
    exact ⟨⟨(hn.cell 0).trans rfl, (hn.cell 1).trans rfl, hn.frozen 0, hn.frozen 1⟩, ((Below.refl _ w).alloc (Nat.le_refl _) _).drew.trans (b1.mono (by simp))⟩))
  go_region_held3 (fun w' => w'.cell? ⟨bp, 11, none⟩ = some (.pointer (some ⟨pr, 0, none⟩)) ∧ w'.cell? ⟨bp, 16, none⟩ = some (.int .i64 r))
    (first | exact HC.out _ (Below.refl _ w).drew | exact HC.out _ ((Below.refl _ w).drew.alloc (Nat.le_refl _) _) | exact HC.out _ ((Below.refl _ w).alloc (Nat.le_refl _) _).drew | exact HC.out _ HB1.out | exact HC.out _ (HB1.out.alloc HB1.out.size _) | exact HC.out _ HB2.out | exact HC.out _ (((HB2.out.setCell (p := ⟨w.heap.size, 0, none⟩) (Nat.le_refl _) _).setCell (p := ⟨w.heap.size, 1, none⟩) (Nat.le_refl _) _)))
    ((first | (go_at_call 167; (with_reducible refine Calls.mono (HG.out _ (Below.refl _ w).drew) ?_); rintro e w' ⟨rfl, b1⟩; have HB1 := hide ((Below.refl _ w).drew.trans b1); clear b1) | (go_at_call 167; (with_reducible refine Calls.mono (HG.out _ ((Below.refl _ w).alloc (Nat.le_refl _) _).drew) ?_); rintro e w' ⟨rfl, b1⟩; obtain ⟨⟨k0, k1, f0, f1⟩, b2⟩ := HW.out w' b1; have HB2 := hide b2; clear b1 b2)))
  · have HE := hide (HB1.out.alloc HB1.out.size (.cells #[.int .i64 0, .int .i64 0] 159))
    go_wp2_with fail
    go_ret
    exact ⟨rfl, HE.out⟩
  · have HE := hide ((HB2.out.setCell (p := ⟨w.heap.size, 0, none⟩) (Nat.le_refl _) (.int .i64 0)).setCell (p := ⟨w.heap.size, 1, none⟩) (Nat.le_refl _) (.int .i64 0))
    go_wp2_with fail
    go_ret
    exact ⟨rfl, HE.out⟩
/-- A condition: a func value of no arguments that answers a bool. -/
structure BoolOk (W : World) (fid : Nat) (caps : Array Value) (v : Bool) : Prop where
  cf : ∀ (args : Array Value) (w : World), (callFunc fid args).run Tryz.prog w = .ok (.enter fid args) w
  call : ∀ w, Below W.heap.size W w → Calls Tryz.prog fid caps w fun e w' => e = .returned (.bool v) ∧ Below w.heap.size w w'
/-- A check: a func value of no arguments that answers an error. -/
structure ChkOk (W : World) (fid : Nat) (caps : Array Value) (E : Int) : Prop where
  cf : ∀ (args : Array Value) (w : World), (callFunc fid args).run Tryz.prog w = .ok (.enter fid args) w
  call : ∀ w, Below W.heap.size W w → Calls Tryz.prog fid caps w fun e w' => e = .returned (.int .i64 E) ∧ Below w.heap.size w w'
theorem BoolOk.below {W W' : World} {fid : Nat} {caps : Array Value} {v : Bool} (h : BoolOk W fid caps v) (hb : Below W.heap.size W W') : BoolOk W' fid caps v := ⟨h.cf, fun w hw => h.call w (hb.trans (hw.mono hb.size))⟩
theorem ChkOk.below {W W' : World} {fid : Nat} {caps : Array Value} {E : Int} (h : ChkOk W fid caps E) (hb : Below W.heap.size W W') : ChkOk W' fid caps E := ⟨h.cf, fun w hw => h.call w (hb.trans (hw.mono hb.size))⟩
/-- A check that a call returns. -/
def ChkRes (E : Int) (fid : Nat) (w : World) (e : Ending) (w' : World) : Prop := ∃ caps, e = .returned (.func (.func fid) #[] caps) ∧ ChkOk w' fid caps E ∧ Below w.heap.size w w'
end
end Go.Proofs.YtnbhejbpofjamaaGreatDoor
