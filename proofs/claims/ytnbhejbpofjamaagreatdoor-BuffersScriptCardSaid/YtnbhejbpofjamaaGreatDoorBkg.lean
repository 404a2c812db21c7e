/- A buffer: the checks of a change. No condition but those written. -/
import Derived.Test.YtnbhejbpofjamaaGreatDoorBkf
namespace Go.Proofs.YtnbhejbpofjamaaGreatDoor
open Go.RowKit

theorem below2 (w : World) (a b : Obj) : Below w.heap.size w ((w.alloc a).alloc b) := ((Below.refl _ w).alloc (Nat.le_refl _) a).alloc (by simp) b
section
variable {bp pt tick tb mk pr ov lb : Nat} {fresh : Bool} {r : Int}
theorem unless1_any (w : World) (E : Int) (fid : Nat) (caps : Array Value) (v : Bool) (g1 g2 : Nat) (h1 : w.cell? ⟨g1, 0, none⟩ = some (.func (.func fid) #[] caps)) (h2 : w.cell? ⟨g2, 0, none⟩ = some (.int .i64 E)) (h : BoolOk w fid caps v) :
    Calls Tryz.prog 166 #[.pointer (some ⟨g1, 0, none⟩), .pointer (some ⟨g2, 0, none⟩)] w fun e w' => e = .returned (.int .i64 (if v then 0 else E)) ∧ Below w.heap.size w w' := by
  have HC := hide (h.call w (Below.refl _ _))
  have hcf := h.cf
  have HK := hide (fun w' (hb : Below w.heap.size w w') => (hb.cell (World.block_lt_of_cell? _ _ h2)).trans h2)
  clear h
  cases v with
  | true =>
    go_enter Tryz.func166, Tryz.ntmps166
    go_wp2_with fail
    refine Calls.mono HC.out ?_
    rintro e w1 ⟨rfl, b1⟩
    have HB := hide b1
    clear b1
    go_wp2_with fail
    go_ret
    exact ⟨rfl, HB.out⟩
  | false =>
    go_enter Tryz.func166, Tryz.ntmps166
    go_wp2_with fail
    refine Calls.mono HC.out ?_
    rintro e w1 ⟨rfl, b1⟩
    have HB := hide b1
    have k2 := HK.out _ b1
    clear b1
    go_wp2_with fail
    go_ret
    exact ⟨rfl, HB.out⟩
theorem unless_any (w : World) (E : Int) (fid : Nat) (caps : Array Value) (v : Bool) {X : Int} (hX : X = if v then 0 else E) (h : BoolOk w fid caps v) : Calls Tryz.prog 137 #[.int .i64 E, .func (.func fid) #[] caps] w (ChkRes X 166 w) := by
  have HB := hide (below2 w (.cells #[.int .i64 E] 27) (.cells #[.func (.func fid) #[] caps] 23))
  have H := hide h
  have HX := hide hX
  clear h hX
  go_enter Tryz.func137, Tryz.ntmps137
  go_wp2_with fail
  go_ret
  refine ⟨_, rfl, ⟨fun args w => Tryz.call166 args w, fun w2 hw => ?_⟩, HB.out⟩
  rw [HX.out]
  have x1 : Blk w2 w.heap.size 27 #[.int .i64 E] := ((Blk.new w 27 #[.int .i64 E]).alloc _).below hw (by simp <;> omega)
  have x2 : Blk w2 (w.heap.size + 1) 23 #[.func (.func fid) #[] caps] := by
    have h9 := Blk.new (w.alloc (.cells #[.int .i64 E] 27)) 23 #[.func (.func fid) #[] caps]
    rw [World.size_alloc] at h9
    exact h9.below hw (by simp <;> omega)
  exact unless1_any w2 E fid caps v _ _ ((x2.cell 0).trans rfl) ((x1.cell 0).trans rfl) (H.out.below (HB.out.trans (hw.mono (by simp <;> omega))))
theorem reach_any (w : World) (h : Blk w bp 104 (bzC pt tick fresh r tb mk pr ov lb)) (hp : 1 ≤ pt) : Calls Tryz.prog 139 #[.pointer (some ⟨bp, 0, none⟩), .int .i64 (pt : Int), .int .i64 (pt : Int)] w fun e w' => e = .returned (.bool true) ∧ w = w' := by
  have c1 : w.cell? ⟨bp, 1, none⟩ = some (.int .i64 1) := (h.cell 1).trans rfl
  have c2 : w.cell? ⟨bp, 2, none⟩ = some (.int .i64 (pt : Int)) := (h.cell 2).trans rfl
  have z1 : decide ((1 : Int) ≤ (pt : Int)) = true := by simp; omega
  have z2 : (1 : Int) ≤ (pt : Int) := by omega
  clear h hp
  go_enter Tryz.func139, Tryz.ntmps139
  go_wp2
  go_ret
  exact ⟨rfl, rfl⟩
theorem within1_any (w : World) (h : Blk w bp 104 (bzC pt tick fresh r tb mk pr ov lb)) (hp : 1 ≤ pt) (g1 g2 g3 : Nat) (h1 : w.cell? ⟨g1, 0, none⟩ = some (.pointer (some ⟨bp, 0, none⟩))) (h2 : w.cell? ⟨g2, 0, none⟩ = some (.int .i64 (pt : Int))) (h3 : w.cell? ⟨g3, 0, none⟩ = some (.int .i64 (pt : Int))) :
    Calls Tryz.prog 138 #[.pointer (some ⟨g1, 0, none⟩), .pointer (some ⟨g2, 0, none⟩), .pointer (some ⟨g3, 0, none⟩)] w fun e w' => e = .returned (.bool true) ∧ Below w.heap.size w w' := by
  have HR := hide (reach_any w h hp)
  clear h hp
  go_enter Tryz.func138, Tryz.ntmps138
  go_wp2_with fail
  refine (Calls.mono HR.out) ?_
  rintro e w' ⟨rfl, rfl⟩
  go_wp2_with fail
  go_ret
  exact ⟨rfl, Below.refl _ _⟩
/-- The three boxes of a closure. -/
theorem boxes3 (w : World) (a b c : Value) (ta tb' tc : TypeId) {w2 : World} (hw : Below (((w.alloc (.cells #[a] ta)).alloc (.cells #[b] tb')).alloc (.cells #[c] tc)).heap.size (((w.alloc (.cells #[a] ta)).alloc (.cells #[b] tb')).alloc (.cells #[c] tc)) w2) :
    w2.cell? ⟨w.heap.size, 0, none⟩ = some a ∧ w2.cell? ⟨w.heap.size + 1, 0, none⟩ = some b ∧ w2.cell? ⟨w.heap.size + 1 + 1, 0, none⟩ = some c := by
  have x1 : Blk w2 w.heap.size ta #[a] := (((Blk.new w ta #[a]).alloc _).alloc _).below hw (by simp <;> omega)
  have x2 : Blk w2 (w.heap.size + 1) tb' #[b] := by
    have h9 := Blk.new (w.alloc (.cells #[a] ta)) tb' #[b]
    rw [World.size_alloc] at h9
    exact (h9.alloc _).below hw (by simp <;> omega)
  have x3 : Blk w2 (w.heap.size + 1 + 1) tc #[c] := by
    have h9 := Blk.new ((w.alloc (.cells #[a] ta)).alloc (.cells #[b] tb')) tc #[c]
    rw [World.size_alloc, World.size_alloc] at h9
    exact h9.below hw (by simp <;> omega)
  exact ⟨(x1.cell 0).trans rfl, (x2.cell 0).trans rfl, (x3.cell 0).trans rfl⟩
theorem boxes2 (w : World) (a b : Value) (ta tb' : TypeId) {w2 : World} (hw : Below ((w.alloc (.cells #[a] ta)).alloc (.cells #[b] tb')).heap.size ((w.alloc (.cells #[a] ta)).alloc (.cells #[b] tb')) w2) :
    w2.cell? ⟨w.heap.size, 0, none⟩ = some a ∧ w2.cell? ⟨w.heap.size + 1, 0, none⟩ = some b := by
  have x1 : Blk w2 w.heap.size ta #[a] := ((Blk.new w ta #[a]).alloc _).below hw (by simp <;> omega)
  have x2 : Blk w2 (w.heap.size + 1) tb' #[b] := by
    have h9 := Blk.new (w.alloc (.cells #[a] ta)) tb' #[b]
    rw [World.size_alloc] at h9
    exact h9.below hw (by simp <;> omega)
  exact ⟨(x1.cell 0).trans rfl, (x2.cell 0).trans rfl⟩
set_option maxRecDepth 100000 in
set_option maxHeartbeats 4000000 in
theorem within_any (w : World) (h : Blk w bp 104 (bzC pt tick fresh r tb mk pr ov lb)) (hp : 1 ≤ pt) : Calls Tryz.prog 100 #[.pointer (some ⟨bp, 0, none⟩), .int .i64 (pt : Int), .int .i64 (pt : Int)] w (ChkRes 0 166 w) := by
  have HB := hide (below3 w (.cells #[.pointer (some ⟨bp, 0, none⟩)] 39) (.cells #[.int .i64 (pt : Int)] 3) (.cells #[.int .i64 (pt : Int)] 3))
  have HU := hide (unless_any (((w.alloc (.cells #[.pointer (some ⟨bp, 0, none⟩)] 39)).alloc (.cells #[.int .i64 (pt : Int)] 3)).alloc (.cells #[.int .i64 (pt : Int)] 3)) 3 138 #[.pointer (some ⟨w.heap.size, 0, none⟩), .pointer (some ⟨w.heap.size + 1, 0, none⟩), .pointer (some ⟨w.heap.size + 1 + 1, 0, none⟩)] true
    rfl ⟨fun args w => Tryz.call138 args w, fun w2 hw => by
      obtain ⟨x1, x2, x3⟩ := boxes3 w _ _ _ _ _ _ hw
      exact within1_any w2 (h.below (HB.out.trans (hw.mono (by simp <;> omega))) h.lt) hp _ _ _ x1 x2 x3⟩)
  clear h hp
  go_enter Tryz.func100, Tryz.ntmps100
  go_wp2_with fail
  refine Calls.mono HU.out ?_
  rintro e w1 ⟨caps, rfl, hc, b1⟩
  have HC := hide hc
  have HB1 := hide (HB.out.trans (b1.mono (by simp <;> omega)))
  clear hc b1
  go_wp2_with fail
  go_ret
  exact ⟨caps, rfl, HC.out, HB1.out⟩
set_option maxRecDepth 100000 in
set_option maxHeartbeats 4000000 in
theorem gapopen1_any (w : World) (h : Blk w bp 104 (bzC pt tick fresh r tb mk pr ov lb)) (hp : Blk w pr 181 prC) (a : Int) (g1 g2 : Nat) (h1 : w.cell? ⟨g1, 0, none⟩ = some (.pointer (some ⟨bp, 0, none⟩))) (h2 : w.cell? ⟨g2, 0, none⟩ = some (.int .i64 a)) :
    Calls Tryz.prog 140 #[.pointer (some ⟨g1, 0, none⟩), .pointer (some ⟨g2, 0, none⟩)] w fun e w' => e = .returned (.bool true) ∧ Below w.heap.size w w' := by
  have c5 : w.cell? ⟨bp, 5, none⟩ = some (.bool false) := (h.cell 5).trans rfl
  have c6 : w.cell? ⟨bp, 6, none⟩ = some (.bool false) := (h.cell 6).trans rfl
  have HL := hide (locked_any w h hp a)
  clear h hp
  go_enter Tryz.func140, Tryz.ntmps140
  go_wp2_with fail
  refine Calls.mono HL.out ?_
  rintro e w1 ⟨rfl, b1⟩
  have HB := hide b1
  clear b1
  go_wp2_with fail
  go_ret
  exact ⟨rfl, HB.out⟩
set_option maxRecDepth 100000 in
set_option maxHeartbeats 4000000 in
theorem gapopen_any (w : World) (h : Blk w bp 104 (bzC pt tick fresh r tb mk pr ov lb)) (hp : Blk w pr 181 prC) (a : Int) : Calls Tryz.prog 101 #[.pointer (some ⟨bp, 0, none⟩), .int .i64 a] w (ChkRes 0 166 w) := by
  have HB := hide (below2 w (.cells #[.pointer (some ⟨bp, 0, none⟩)] 39) (.cells #[.int .i64 a] 3))
  have HU := hide (unless_any ((w.alloc (.cells #[.pointer (some ⟨bp, 0, none⟩)] 39)).alloc (.cells #[.int .i64 a] 3)) 14 140 #[.pointer (some ⟨w.heap.size, 0, none⟩), .pointer (some ⟨w.heap.size + 1, 0, none⟩)] true
    rfl ⟨fun args w => Tryz.call140 args w, fun w2 hw => by
      obtain ⟨x1, x2⟩ := boxes2 w _ _ _ _ hw
      have hb := HB.out.trans (hw.mono (by simp <;> omega))
      exact gapopen1_any w2 (h.below hb h.lt) (hp.below hb hp.lt) a _ _ x1 x2⟩)
  clear h hp
  go_enter Tryz.func101, Tryz.ntmps101
  go_wp2_with fail
  refine Calls.mono HU.out ?_
  rintro e w1 ⟨caps, rfl, hc, b1⟩
  have HC := hide hc
  have HB1 := hide (HB.out.trans (b1.mono (by simp <;> omega)))
  clear hc b1
  go_wp2_with fail
  go_ret
  exact ⟨caps, rfl, HC.out, HB1.out⟩
end
end Go.Proofs.YtnbhejbpofjamaaGreatDoor
