/- Marks, properties and overlays of nothing: an insertion leaves them. No condition but those written. -/
import Derived.Test.YtnbhejbpofjamaaGreatDoorBkc
import Derived.Test.YtnbhejbpofjamaaGreatDoorMr
namespace Go.Proofs.YtnbhejbpofjamaaGreatDoor
open Go.RowKit

theorem MapRg.over {P : Program} {w : World} {b r : Nat} {m : List (Value × Value)} (h : MapRg w b r m []) (ty : TypeId) : (Instr.next (.pointer (some ⟨r, 0, none⟩)) false ty).run P w = .ok (.tuple #[.bool false]) w := by
  rcases h.next (P := P) ty with ⟨_, h1⟩ | ⟨k, v, A, B, w', h0, _⟩
  · exact h1
  · simp at h0
theorem wpList_range_o {P : Program} {w : World} {b : Nat} {ops : Array Oper} {rs : List Oper} {o : Oper} {a : Act} {Q : Exit → Act → World → Prop} {t k e : TypeId} (hg : o.guard = none) (x : Operand) (hop : o.op = Op.range t x) (ht : P.underlying t = some (.map k e)) (hx : a.eval x = .map (some b)) (h : MapIs w b [])
    (hK : ∀ r w', MapRg w' b r [] [] → Below w.heap.size w w' → wpList P ops Q rs (a.put o.dst (.pointer (some ⟨r, 0, none⟩))) w') : wpList P ops Q (o :: rs) a w :=
  wpList_range_is hg x hop ht hx h fun w' h1 h2 => hK _ w' h1 h2
theorem neq_marks (w : World) (r : Option Nat) : (binOp .neq 167 (.map r) (.map none)).run Tryz.prog w = .ok (.bool (!r.isNone)) w := run_neq_map_nil w _ _ _ r Tryz.underlying167
attribute [local go_sem] neq_marks

/-! ### Marks -/
theorem below3 (w : World) (a b c : Obj) : Below w.heap.size w (((w.alloc a).alloc b).alloc c) := (((Below.refl _ w).alloc (Nat.le_refl _) a).alloc (by simp) b).alloc (by simp; omega) c
theorem mmade_any (mk mm : Nat) (w : World) (h0 : w.cell? ⟨mk, 0, none⟩ = some (.map (some mm))) : Calls Tryz.prog 127 #[.pointer (some ⟨mk, 0, none⟩)] w fun e w' => e = .returned (.bool true) ∧ w = w' := by
  go_enter Tryz.func127, Tryz.ntmps127
  go_wp2
  go_ret
  exact ⟨rfl, rfl⟩
theorem mplace_any (a : Int) (w : World) (h1 : 1 ≤ a) (h2 : a ≤ 1099511627776) : Calls Tryz.prog 169 #[.int .i64 a] w fun e w' => e = .returned (.bool true) ∧ w = w' := by
  have z1 : decide (1 ≤ a) = true := by simpa using h1
  have z2 : decide (a ≤ 1099511627776) = true := by simpa using h2
  go_enter Tryz.func169, Tryz.ntmps169
  go_wp2
  go_ret
  exact ⟨rfl, rfl⟩
set_option maxRecDepth 100000 in
set_option maxHeartbeats 4000000 in
theorem mchange_any (mk mm : Nat) (w : World) (F : Value) (h0 : w.cell? ⟨mk, 0, none⟩ = some (.map (some mm))) (hm : MapIs w mm []) : Calls Tryz.prog 171 #[.pointer (some ⟨mk, 0, none⟩), F] w fun e w' => e = .returned (.tuple #[]) ∧ Below w.heap.size w w' := by
  go_enter Tryz.func171, Tryz.ntmps171
  go_wp2_with (refine wpList_range_o rfl _ rfl Tryz.underlying167 rfl hm ?_; intro r w3 hrg hb3)
  have HI := hide (show MapRg w3 mm r [] [] ∧ Below w.heap.size w w3 from ⟨hrg, hb3⟩)
  clear hrg hb3 hm h0
  simp only [Act.put, List.setIfInBounds_toArray, List.set_cons_succ, List.set_cons_zero]
  go_loopw [] (fun wr => MapRg wr mm r [] [] ∧ Below w.heap.size w wr) (fun _ => 0)
  case atStart => exact HI.out
  case round =>
    obtain ⟨h1, h2⟩ := hrel
    have hn := h1.over (P := Tryz.prog) 0
    have HB := hide h2
    clear h1 h2
    go_wp2
    refine bodyPost_end (results_none rfl _ _ _) rfl ?_
    exact ⟨rfl, HB.out⟩
set_option maxRecDepth 100000 in
set_option maxHeartbeats 4000000 in
theorem minserted_any (mk mm : Nat) (w : World) (h0 : w.cell? ⟨mk, 0, none⟩ = some (.map (some mm))) (hm : MapIs w mm []) (at' n : Nat) (ha : 1 ≤ at') (ha2 : at' ≤ 1000000) (hn : n ≤ 65536) (ahead : Bool) :
    Calls Tryz.prog 144 #[.pointer (some ⟨mk, 0, none⟩), .int .i64 (at' : Int), .int .i64 (n : Int), .bool ahead] w fun e w' => e = .returned (.int .i64 0) ∧ Below w.heap.size w w' := by
  have z1 : decide ((n : Int) < 0) = false := by simp
  have z2 : decide ((65536 : Int) < (n : Int)) = false := by simp; omega
  have HM := hide (fun w' (hb : Below w.heap.size w w') => mmade_any mk mm w' ((hb.cell (World.block_lt_of_cell? _ _ h0)).trans h0))
  have HC := hide (fun w' F (hb : Below w.heap.size w w') => mchange_any mk mm w' F ((hb.cell (World.block_lt_of_cell? _ _ h0)).trans h0) (hm.same (hb.block _ hm.lt)))
  have HP := hide (fun w' => mplace_any (at' : Int) w' (by omega) (by omega))
  have HK := hide (fun w' (hb : Below w.heap.size w w') => (show w'.cell? ⟨mk, 0, none⟩ = some (.map (some mm)) ∧ MapIs w' mm [] from ⟨(hb.cell (World.block_lt_of_cell? _ _ h0)).trans h0, hm.same (hb.block _ hm.lt)⟩))
  have hB3 := below3 w (.cells #[.int .i64 (at' : Int)] 3) (.cells #[.int .i64 (n : Int)] 3) (.cells #[.bool ahead] 4)
  obtain ⟨c0, hm3⟩ := HK.out _ hB3
  have HB3 := hide hB3
  clear hm ha ha2 hn h0 hB3
  go_enter Tryz.func144, Tryz.ntmps144
  go_wp2_with (first | (go_at_call 127; refine (Calls.mono (HM.out _ HB3.out)) ?_; rintro e w' ⟨rfl, rfl⟩) | (go_at_call 169; refine (Calls.mono (HP.out _)) ?_; rintro e w' ⟨rfl, rfl⟩) | (refine wpList_range_o rfl _ rfl Tryz.underlying167 rfl hm3 ?_; intro r w5 hrg hb5))
  have HI := hide (show MapRg w5 mm r [] [] ∧ Below w.heap.size w w5 from ⟨hrg, HB3.out.trans (hb5.mono HB3.out.size)⟩)
  clear hrg hb5 hm3 c0
  simp only [Act.put, List.setIfInBounds_toArray, List.set_cons_succ, List.set_cons_zero]
  go_loopw [] (fun wr => MapRg wr mm r [] [] ∧ Below w.heap.size w wr) (fun _ => 0)
  case atStart => exact HI.out
  case round =>
    obtain ⟨h1, h2⟩ := hrel
    have hn := h1.over (P := Tryz.prog) 0
    have HB := hide h2
    clear h1 h2
    go_wp2_with fail
    refine (Calls.mono (HC.out _ _ HB.out)) ?_
    rintro e w6 ⟨rfl, b6⟩
    have HB6 := hide (HB.out.trans (b6.mono HB.out.size))
    clear b6
    go_wp2_with fail
    go_ret
    exact ⟨rfl, HB6.out⟩
end Go.Proofs.YtnbhejbpofjamaaGreatDoor
namespace Go.Proofs.YtnbhejbpofjamaaGreatDoor
open Go.RowKit

/-! ### Properties -/
theorem pnone_any (pr : Nat) (w : World) (h1 : w.cell? ⟨pr, 1, none⟩ = some (.bool true)) : Calls Tryz.prog 129 #[.pointer (some ⟨pr, 0, none⟩)] w fun e w' => e = .returned (.bool false) ∧ w = w' := by
  go_enter Tryz.func129, Tryz.ntmps129
  go_wp2
  go_ret
  exact ⟨rfl, rfl⟩
set_option maxRecDepth 100000 in
set_option maxHeartbeats 4000000 in
theorem pinserted_any (pr : Nat) (w : World) (h : Blk w pr 181 #[.slice none 0 0, .bool true]) (at' n : Nat) (ha : 1 ≤ at') (ha2 : at' ≤ 65537) (hn : n ≤ 65536) :
    Calls Tryz.prog 145 #[.pointer (some ⟨pr, 0, none⟩), .int .i64 (at' : Int), .int .i64 (n : Int)] w fun e w' => e = .returned (.int .i64 0) ∧ Only (· = pr) w w' ∧ Blk w' pr 181 #[.slice none 0 0, .bool true] := by
  have z1 : decide ((n : Int) < 0) = false := by simp
  have z2 : decide ((65536 : Int) < (n : Int)) = false := by simp; omega
  have z3 : decide ((at' : Int) < 1) = false := by simp; omega
  have z4 : decide ((65537 : Int) < (at' : Int)) = false := by simp; omega
  have c0 : w.cell? ⟨pr, 0, none⟩ = some (.slice none 0 0) := (h.cell 0).trans rfl
  have HN := hide (pnone_any pr w ((h.cell 1).trans rfl))
  have f0 := h.frozen 0
  have HS := hide (h.set_ 0 (.slice none 0 0))
  have H := hide h
  clear h ha ha2 hn
  go_enter Tryz.func145, Tryz.ntmps145
  go_wp2_with (go_at_call 129; refine (Calls.mono HN.out) ?_; rintro e w' ⟨rfl, rfl⟩)
  go_loopw [8, 68] (fun o i wr => o = .slice none 0 0 ∧ i = .int .i64 0 ∧ wr = w) (fun _ _ _ => 0)
  case atStart => exact ⟨rfl, rfl, rfl⟩
  case round =>
    obtain ⟨rfl, rfl, rfl⟩ := hrel
    go_wp2_with fail
    go_ret
    exact ⟨rfl, (Only.refl (· = pr) _).setCell (p := ⟨pr, 0, none⟩) (.inl rfl) _, HS.out⟩
/-! ### Overlays -/
theorem ovalid_any (ov : Nat) (w : World) (h4 : w.cell? ⟨ov, 4, none⟩ = some (.bool true)) : Calls Tryz.prog 131 #[.pointer (some ⟨ov, 0, none⟩)] w fun e w' => e = .returned (.bool true) ∧ w = w' := by
  go_enter Tryz.func131, Tryz.ntmps131
  go_wp2
  go_ret
  exact ⟨rfl, rfl⟩
theorem oplace_any (a : Int) (w : World) (h1 : 1 ≤ a) (h2 : a ≤ 1099511627776) : Calls Tryz.prog 173 #[.int .i64 a] w fun e w' => e = .returned (.bool true) ∧ w = w' := by
  have z1 : decide (1 ≤ a) = true := by simpa using h1
  have z2 : decide (a ≤ 1099511627776) = true := by simpa using h2
  go_enter Tryz.func173, Tryz.ntmps173
  go_wp2
  go_ret
  exact ⟨rfl, rfl⟩
set_option maxRecDepth 100000 in
set_option maxHeartbeats 4000000 in
theorem oapply_any (ov : Nat) (w : World) (E : Value) (h2 : w.cell? ⟨ov, 2, none⟩ = some (.slice none 0 0)) : Calls Tryz.prog 175 #[.pointer (some ⟨ov, 0, none⟩), E] w fun e w' => e = .returned (.tuple #[]) ∧ Below w.heap.size w w' := by
  go_enter Tryz.func175, Tryz.ntmps175
  go_wp2_with fail
  go_loopw [11] (fun i wr => i = .int .i64 0 ∧ wr = w) (fun _ _ => 0)
  case atStart => exact ⟨rfl, rfl⟩
  case round =>
    obtain ⟨rfl, rfl⟩ := hrel
    go_wp2_with fail
    refine bodyPost_end (results_none rfl _ _ _) rfl ?_
    exact ⟨rfl, Below.refl _ _⟩
set_option maxRecDepth 100000 in
set_option maxHeartbeats 4000000 in
theorem oinserted_any (ov : Nat) (p q : Int) (w : World) (h : Blk w ov 184 #[.int .i64 p, .int .i64 q, .slice none 0 0, .int .i64 0, .bool true]) (at' n : Nat) (ha : 1 ≤ at') (ha2 : at' ≤ 1000000) (hn : n ≤ 65536) :
    Calls Tryz.prog 146 #[.pointer (some ⟨ov, 0, none⟩), .int .i64 (at' : Int), .int .i64 (n : Int)] w fun e w' => e = .returned (.int .i64 0) ∧ Below w.heap.size w w' := by
  have z1 : decide ((n : Int) < 0) = false := by simp
  have z2 : decide ((65536 : Int) < (n : Int)) = false := by simp; omega
  have HV := hide (ovalid_any ov w ((h.cell 4).trans rfl))
  have HP := hide (oplace_any (at' : Int) w (by omega) (by omega))
  have c2 : w.cell? ⟨ov, 2, none⟩ = some (.slice none 0 0) := (h.cell 2).trans rfl
  have H := hide h
  clear h ha ha2 hn
  go_enter Tryz.func146, Tryz.ntmps146
  have hB := (Below.refl _ w).alloc (Nat.le_refl _) (.cells #[.int .i64 (at' : Int), .int .i64 (n : Int)] 238)
  have d2 : (w.alloc (.cells #[.int .i64 (at' : Int), .int .i64 (n : Int)] 238)).cell? ⟨ov, 2, none⟩ = some (.slice none 0 0) := (hB.cell H.out.lt).trans c2
  have HA := hide (fun E => oapply_any ov _ E d2)
  have HB := hide hB
  clear hB
  go_wp2_with (first | (go_at_call 131; refine (Calls.mono HV.out) ?_; rintro e w' ⟨rfl, rfl⟩) | (go_at_call 173; refine (Calls.mono HP.out) ?_; rintro e w' ⟨rfl, rfl⟩))
  go_loopw [35] (fun i wr => i = .int .i64 0 ∧ wr = (w.alloc (.cells #[.int .i64 (at' : Int), .int .i64 (n : Int)] 238))) (fun _ _ => 0)
  case atStart => exact ⟨rfl, rfl⟩
  case round =>
    obtain ⟨rfl, rfl⟩ := hrel
    go_wp2_with fail
    refine (Calls.mono (HA.out _)) ?_
    rintro e w2 ⟨rfl, b2⟩
    have HB2 := hide (HB.out.trans (b2.mono HB.out.size))
    clear b2
    go_wp2_with fail
    go_ret
    exact ⟨rfl, HB2.out⟩
end Go.Proofs.YtnbhejbpofjamaaGreatDoor
