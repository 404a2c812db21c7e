/- What the methods of the variables do: the cell of a variable, Set, Get. No condition but those written. -/
import Derived.Test.YtempnakdpmmmoaaVarW
namespace Go.Proofs.Ytempnakdpmmmoaa
open Go.RowKit
attribute [local go_sem] neq_cells

theorem zero_ptr (w : World) : (zeroValue 58).run Try.prog w = .ok (.pointer none) w := by kernel_rfl
theorem zero_map (w : World) : (zeroValue 52).run Try.prog w = .ok (.map none) w := by kernel_rfl

def Vst.dflt (s : Vst) (n : Int) : Cel := ((fnd s.defs n).map (·.c)).getD Cel.zero
def Vst.glob (s : Vst) (n : Int) (g : Nat) : Vst := if (fnd s.defs n).isSome then s else s.addDef n g Cel.zero
theorem fnd_append {l : List Ent} {n : Int} (h : fnd l n = none) (e : Ent) (he : e.n = n) : fnd (l ++ [e]) n = some e := by
  unfold fnd at *
  rw [List.find?_append, h]
  simp [he]
def Vst.inner (s : Vst) (k : Int) : List Ent := ((fndL s.locs k).map (·.es)).getD []
def Vst.lcl (s : Vst) (k n : Int) : Option Ent := fnd (s.inner k) n
def Vst.placed (s : Vst) (n : Int) (g : Nat) : Vst := if (s.lcl s.scope n).isSome then s else s.glob n g
def Vst.now (s : Vst) (n : Int) : Cel := match s.lcl s.scope n with
  | some e => e.c
  | none => s.dflt n
/-- Block g is the cell that variable n has now. -/
def Vst.at_ (s : Vst) (n : Int) (g : Nat) : Prop := match s.lcl s.scope n with
  | some e => e.g = g
  | none => ∃ c, fnd s.defs n = some ⟨n, g, c⟩

section
variable {W w w' : World} {b : Vb} {s : Vst} {R : Heap}
set_option maxRecDepth 100000 in
theorem global_old (h : VarsAt W w b s R) (n : Int) (e : Ent) (he : fnd s.defs n = some e) : Calls Try.prog 37 #[.pointer (some ⟨b.vb, 0, none⟩), .int .i64 n] w fun r w' => r = .returned (.pointer (some ⟨e.g, 0, none⟩)) ∧ w = w' := by
  have c0 : w.cell? ⟨b.vb, 0, none⟩ = some (.map (some b.db)) := by rw [h.vb.cell]; rfl
  have hl := (h.db).lookup (P := Try.prog) (ent_keys s.defs) Try.underlying52 Try.underlying3 (.int _ n) (zero_ptr w) false
  rw [ent_get, he] at hl
  simp only [Option.map_some, Option.getD_some, Bool.false_eq_true, if_false] at hl
  clear h he
  go_enter Try.func37, Try.ntmps37
  go_wp2
  go_ret
  exact ⟨rfl, rfl⟩
set_option maxRecDepth 100000 in
theorem global_new (h : VarsAt W w b s R) (n : Int) (he : fnd s.defs n = none) : Calls Try.prog 37 #[.pointer (some ⟨b.vb, 0, none⟩), .int .i64 n] w
    fun r w' => r = .returned (.pointer (some ⟨w.heap.size, 0, none⟩)) ∧ VarsAt W w' b (s.addDef n w.heap.size Cel.zero) R := by
  have c0 : w.cell? ⟨b.vb, 0, none⟩ = some (.map (some b.db)) := by rw [h.vb.cell]; rfl
  have hl := (h.db).lookup (P := Try.prog) (ent_keys s.defs) Try.underlying52 Try.underlying3 (.int _ n) (zero_ptr w) false
  rw [ent_get, he] at hl
  simp only [Option.map_none, Option.getD_none, Bool.false_eq_true, if_false] at hl
  have h1 : VarsAt W (w.alloc (.cells #[.int .i64 0, .int .i64 0, .bool false] 60)) b s ((w.heap.size, celA Cel.zero) :: R) := h.box 60 Cel.zero.cells.toArray
  have hlt := h.own.lt (g := b.vb) (a := _) (by simp [Vst.heap, Vb.head]; exact .inl rfl)
  obtain ⟨w4, hr, hm4, ho4⟩ := (h1.db).update (P := Try.prog) (ent_keys s.defs) Try.underlying52 Try.underlying3 (.int _ n) (.pointer (some ⟨w.heap.size, 0, none⟩))
  rw [show mput (entPairs s.defs) (.int .i64 n) (.pointer (some ⟨w.heap.size, 0, none⟩)) = _ from ent_put w.heap.size Cel.zero s.defs he] at hm4
  have HV := hide (h1.addDef ho4 hm4)
  clear h he h1 hm4 ho4
  go_enter Try.func37, Try.ntmps37
  go_wp2
  go_ret
  exact ⟨rfl, HV.out⟩
theorem global_any (h : VarsAt W w b s R) (n : Int) : Calls Try.prog 37 #[.pointer (some ⟨b.vb, 0, none⟩), .int .i64 n] w
    fun r w' => ∃ g, r = .returned (.pointer (some ⟨g, 0, none⟩)) ∧ VarsAt W w' b (s.glob n g) R ∧ fnd (s.glob n g).defs n = some ⟨n, g, s.dflt n⟩ := by
  cases he : fnd s.defs n with
  | some e =>
    refine (global_old h n e he).mono ?_
    rintro r w' ⟨rfl, rfl⟩
    obtain ⟨_, rfl⟩ := fnd_mem he
    refine ⟨e.g, rfl, ?_, ?_⟩
    · simp only [Vst.glob, he, Option.isSome_some, if_true]
      exact h
    · simp [Vst.glob, Vst.dflt, he]
  | none =>
    refine (global_new h n he).mono ?_
    rintro r w' ⟨rfl, h'⟩
    refine ⟨w.heap.size, rfl, ?_, ?_⟩
    · simp only [Vst.glob, he, Option.isSome_none, Bool.false_eq_true, if_false]
      exact h'
    · simp only [Vst.glob, he, Option.isSome_none, Bool.false_eq_true, if_false, Vst.addDef, Vst.dflt, Option.map_none, Option.getD_none]
      exact fnd_append he _ rfl
set_option maxRecDepth 100000 in
theorem place_local (h : VarsAt W w b s R) (n : Int) (e : Ent) (he : s.lcl s.scope n = some e) : Calls Try.prog 35 #[.pointer (some ⟨b.vb, 0, none⟩), .int .i64 n] w
    fun r w' => r = .returned (.pointer (some ⟨e.g, 0, none⟩)) ∧ VarsAt W w' b s R := by
  obtain ⟨x, hx, hxe⟩ : ∃ x, fndL s.locs s.scope = some x ∧ fnd x.es n = some e := by
    unfold Vst.lcl Vst.inner at he
    cases hx : fndL s.locs s.scope with
    | none => rw [hx] at he; simp [fnd] at he
    | some x => rw [hx] at he; exact ⟨x, rfl, by simpa using he⟩
  have c1 : w.cell? ⟨b.vb, 1, none⟩ = some (.map (some b.lb)) := by rw [h.vb.cell]; rfl
  have c4 : w.cell? ⟨b.vb, 4, none⟩ = some (.int .i64 s.scope) := by rw [h.vb.cell]; rfl
  have hl := (h.drew.lb).lookup (P := Try.prog) (loc_keys s.locs) Try.underlying53 Try.underlying3 (.int _ s.scope) (zero_map w.drew) false
  rw [loc_get, hx] at hl
  simp only [Option.map_some, Option.getD_some, Bool.false_eq_true, if_false] at hl
  have hm := (h.drew.loc (fndL_mem hx).1).lookup (P := Try.prog) (ent_keys x.es) Try.underlying52 Try.underlying3 (.int _ n) (zero_ptr w.drew) false
  rw [ent_get, hxe] at hm
  simp only [Option.map_some, Option.getD_some, Bool.false_eq_true, if_false] at hm
  have HV := hide h.drew
  clear h he hx hxe
  go_enter Try.func35, Try.ntmps35
  go_wp2
  go_region
  go_wp2
  go_ret
  exact ⟨rfl, HV.out⟩
set_option maxRecDepth 100000 in
theorem place_global (h : VarsAt W w b s R) (n : Int) (he : s.lcl s.scope n = none) : Calls Try.prog 35 #[.pointer (some ⟨b.vb, 0, none⟩), .int .i64 n] w
    fun r w' => ∃ g, r = .returned (.pointer (some ⟨g, 0, none⟩)) ∧ VarsAt W w' b (s.glob n g) R ∧ fnd (s.glob n g).defs n = some ⟨n, g, s.dflt n⟩ := by
  have c1 : w.cell? ⟨b.vb, 1, none⟩ = some (.map (some b.lb)) := by rw [h.vb.cell]; rfl
  have c4 : w.cell? ⟨b.vb, 4, none⟩ = some (.int .i64 s.scope) := by rw [h.vb.cell]; rfl
  have hl := (h.drew.lb).lookup (P := Try.prog) (loc_keys s.locs) Try.underlying53 Try.underlying3 (.int _ s.scope) (zero_map w.drew) false
  rw [loc_get] at hl
  have HG := hide (global_any h.drew n)
  cases hx : fndL s.locs s.scope with
  | none =>
    rw [hx] at hl
    simp only [Option.map_none, Option.getD_none, Bool.false_eq_true, if_false] at hl
    have hm := lookup_nil (P := Try.prog) Try.underlying52 Try.underlying3 (.int .i64 n) (zero_ptr w.drew) false
    simp only [Bool.false_eq_true, if_false] at hm
    clear h he hx
    go_enter Try.func35, Try.ntmps35
    go_wp2
    go_region
    go_wp2_with fail
    refine (Calls.mono HG.out) ?_
    rintro r w' ⟨g, rfl, hV, hf⟩
    go_wp2
    go_ret
    exact ⟨g, rfl, hV, hf⟩
  | some x =>
    rw [hx] at hl
    simp only [Option.map_some, Option.getD_some, Bool.false_eq_true, if_false] at hl
    have hxe : fnd x.es n = none := by
      unfold Vst.lcl Vst.inner at he
      rw [hx] at he
      exact he
    have hm := (h.drew.loc (fndL_mem hx).1).lookup (P := Try.prog) (ent_keys x.es) Try.underlying52 Try.underlying3 (.int _ n) (zero_ptr w.drew) false
    rw [ent_get, hxe] at hm
    simp only [Option.map_none, Option.getD_none, Bool.false_eq_true, if_false] at hm
    clear h he hx hxe
    go_enter Try.func35, Try.ntmps35
    go_wp2
    go_region
    go_wp2_with fail
    refine (Calls.mono HG.out) ?_
    rintro r w' ⟨g, rfl, hV, hf⟩
    go_wp2
    go_ret
    exact ⟨g, rfl, hV, hf⟩
end
end Go.Proofs.Ytempnakdpmmmoaa
