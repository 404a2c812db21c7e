/- inherits: does a face inherit from another one. No condition but those written. -/
import Derived.Test.YtmjogpacajbngaaFc
import Derived.RangeFuncFrom
namespace Go.Proofs.Ytmjogpacajbngaa
open Go.RowKit Go.Shelf
attribute [local go_sem] Oper.semAt_some

theorem toList_beq (x y : ByteArray) : (x.toList == y.toList) = (x == y) := by
  rw [ByteArray.toList_eq, ByteArray.toList_eq, Bool.eq_iff_iff, MapKept.bytes_beq]
  constructor
  · intro h
    exact ByteArray.ext (Array.toList_inj.1 (by simpa using h))
  · rintro rfl
    simp
/-- The faces lie in memory. -/
structure FaIn (w : World) (fb mb : Nat) (D : Fm) : Prop where
  m : Blk w fb 60 #[.map (some mb)]
  d : MapIs w mb (facePairs D)
theorem FaIn.below {w w' : World} {fb mb : Nat} {D : Fm} (h : FaIn w fb mb D) (hb : Below w.heap.size w w') : FaIn w' fb mb D := ⟨h.m.below hb h.m.lt, h.d.same (hb.block _ h.d.lt)⟩
theorem chain_any (f : Option Addr) (name : ByteArray) (w : World) : Calls Try.prog 49 #[.pointer f, .string name] w fun e w' => e = .returned (.func (.func 56) #[] #[.pointer (some ⟨w.heap.size + 1, 0, none⟩), .pointer (some ⟨w.heap.size, 0, none⟩)]) ∧ w' = (w.alloc (.cells #[.pointer f] 30)).alloc (.cells #[.string name] 9) := by
  go_enter Try.func49, Try.ntmps49
  go_wp2
  go_ret
  exact ⟨rfl, rfl⟩
theorem chat_start {w : World} {fb mb : Nat} {D : Fm} (h : FaIn w fb mb D) (name : ByteArray) : ChAt ((w.alloc (.cells #[.pointer (some ⟨fb, 0, none⟩)] 30)).alloc (.cells #[.string name] 9)) (w.heap.size + 1) w.heap.size fb mb D name := by
  refine ⟨?_, (Blk.new w _ _).alloc _, (h.m.alloc _).alloc _, (h.d.alloc _).alloc _⟩
  have := Blk.new (w.alloc (.cells #[.pointer (some ⟨fb, 0, none⟩)] 30)) 9 #[.string name]
  rwa [World.size_alloc] at this
set_option maxRecDepth 100000 in
set_option maxHeartbeats 4000000 in
theorem inherits_any {w : World} {fb mb : Nat} {D : Fm} (h : FaIn w fb mb D) (name want : ByteArray) (xs : List ByteArray) (hx : Chain D name xs) : Calls Try.prog 42 #[.pointer (some ⟨fb, 0, none⟩), .string name, .string want] w fun e w' => e = .returned (.bool (xs.any fun y => y == want)) ∧ Below w.heap.size w w' := by
  refine (callsIn_wide (n := 5)).1 ?_
  refine callsIn_of_wp_marks Try.func42 rfl trivial ?_ rfl
  simp only [Try.ntmps42, List.size_toArray, List.length_cons, List.length_nil, Nat.reduceAdd, Nat.reduceSub, Array.replicate_succ, Array.replicate_zero, List.push_toArray, List.append_toArray, List.nil_append, List.cons_append]
  gi_wp2_with (refine ⟨trivial, ?_⟩; gi_at_call 49; refine (callsIn_wide.2 (chain_any (some ⟨fb, 0, none⟩) name _)).mono ?_; rintro e w' ⟨rfl, rfl⟩)
  obtain ⟨W0, hW0⟩ : ∃ W0, W0 = (((w.alloc (.cells #[.string want] 9)).alloc (.cells #[.bool false] 4)).alloc (.cells #[.pointer (some ⟨fb, 0, none⟩)] 30)).alloc (.cells #[.string name] 9) := ⟨_, rfl⟩
  have hsz : W0.heap.size = w.heap.size + 4 := by rw [hW0]; simp
  have hB0 : Below w.heap.size w W0 := by
    rw [hW0]
    exact ((((Below.refl _ w).alloc (Nat.le_refl _) _).alloc (by simp) _).alloc (by simp; omega) _).alloc (by simp; omega) _
  have hb5 : Blk W0 w.heap.size 9 #[.string want] := by
    rw [hW0]
    exact (((Blk.new w _ _).alloc _).alloc _).alloc _
  have hb6 : Blk W0 (w.heap.size + 1) 4 #[.bool false] := by
    rw [hW0]
    have := Blk.new (w.alloc (.cells #[.string want] 9)) 4 #[.bool false]
    rw [World.size_alloc] at this
    exact (this.alloc _).alloc _
  have hch : ChAt W0 (w.heap.size + 1 + 1 + 1) (w.heap.size + 1 + 1) fb mb D name := by
    have h2 : FaIn ((w.alloc (.cells #[.string want] 9)).alloc (.cells #[.bool false] 4)) fb mb D := h.below (((Below.refl _ w).alloc (Nat.le_refl _) _).alloc (by simp) _)
    have := chat_start h2 name
    simp only [World.size_alloc] at this
    rw [hW0]
    exact this
  have hfl := h.m.lt
  have hml := h.d.lt
  rw [← hW0]
  clear hW0
  refine range_turns (F := Fence.wide) (n := 5) (w := W0) rfl (by decide) (gf := 56) (lb := #[.pointer (some ⟨w.heap.size + 1 + 1 + 1, 0, none⟩), .pointer (some ⟨w.heap.size + 1 + 1, 0, none⟩)]) rfl trivial (enters_of Try.func56 (by kernel_rfl) rfl)
    (chain_turns Fence.wide 4 trivial rfl (by decide) hch hx) (fun b hb => by omega) (fun h k => ⟨k.1.trans h.1, k.2.1.trans h.2.1, k.2.2.1.trans h.2.2.1, k.2.2.2.trans h.2.2.2⟩)
    (fun A C hlt ho => ⟨ho.block _ (by omega) (by omega), ho.block _ (by omega) (by omega), ho.block _ (by omega) (by omega), ho.block _ (by omega) (by omega)⟩) (fun _ => rfl)
    (fun pre W => (∀ y ∈ pre, (y == want) = false) ∧ Blk W w.heap.size 9 #[.string want] ∧ Blk W (w.heap.size + 1) 4 #[.bool false] ∧ Below w.heap.size w W)
    (fun c pre W => c = .ret ∧ (∃ y ∈ pre, (y == want) = true) ∧ Blk W (w.heap.size + 1) 4 #[.bool true] ∧ Below w.heap.size w W)
    (fun pre A C hs ho => ⟨hs.1, hs.2.1.only ho (by unfold Mine; omega), hs.2.2.1.only ho (by unfold Mine; omega), hs.2.2.2.trans (ho.below (hs.2.2.2.size) (fun i hi => by unfold Mine at hi; omega))⟩)
    (fun c pre A C hs ho => ⟨hs.1, hs.2.1, hs.2.2.1.only ho (by unfold Mine; omega), hs.2.2.2.trans (ho.below (hs.2.2.2.size) (fun i hi => by unfold Mine at hi; omega))⟩)
    ⟨fun y hy => (by cases hy), hb5, hb6, hB0⟩
    (fun x => { tmps := #[.pointer (some ⟨fb, 0, none⟩), .string name, .string want, undef, undef, .pointer (some ⟨w.heap.size, 0, none⟩), .pointer (some ⟨w.heap.size + 1, 0, none⟩), .string x, .pointer (some ⟨fb, 0, none⟩), .string name, .func (.func 56) #[] #[.pointer (some ⟨w.heap.size + 1 + 1 + 1, 0, none⟩), .pointer (some ⟨w.heap.size + 1 + 1, 0, none⟩)], .string x, undef, undef, undef], defers := [] }) ?assign ?body ?done ?stop
  case assign =>
    intro l x W K hK
    gi_wp2
    exact hK
  case body =>
    rintro l pre x W hlt ⟨hp, h5, h6, hB⟩ _
    have c5 : W.cell? ⟨w.heap.size, 0, none⟩ = some (.string want) := by rw [h5.cell]; rfl
    have c6 : W.cell? ⟨w.heap.size + 1, 0, none⟩ = some (.bool false) := by rw [h6.cell]; rfl
    have f6 : W.frozen? ⟨w.heap.size + 1, 0, none⟩ = false := h6.frozen 0
    have hlt2 : w.heap.size + 1 < W0.heap.size := by omega
    cases hxw : x == want with
    | true =>
      have HX := hide hxw
      have HS := hide (h6.set_ 0 (.bool true))
      have z1 : (x.toList == want.toList) = true := by rw [toList_beq]; exact hxw
      have HB := hide (hB.setCell (p := ⟨w.heap.size + 1, 0, none⟩) (by simp) (.bool true))
      have HK := hide (show Keep2 W0.heap.size W (W.setCell ⟨w.heap.size + 1, 0, none⟩ (.bool true)) from ⟨Below.heap_setCell W _ _ _ (by simp; omega), Below.heap_setCell W _ _ _ (by simp; omega)⟩)
      clear hxw hp h5 h6 hB
      gi_wp2
      exact ⟨HK.out, rfl, ⟨x, by simp, HX.out⟩, HS.out, HB.out⟩
    | false =>
      have HX := hide hxw
      have z1 : (x.toList == want.toList) = false := by rw [toList_beq]; exact hxw
      have HI := hide (show (∀ y ∈ pre ++ [x], (y == want) = false) ∧ Blk W w.heap.size 9 #[.string want] ∧ Blk W (w.heap.size + 1) 4 #[.bool false] ∧ Below w.heap.size w W from ⟨fun y hy => (List.mem_append.1 hy).elim (hp y) (fun e => by simp at e; subst e; exact hxw), h5, h6, hB⟩)
      clear hxw hp h5 h6 hB
      gi_wp2
      exact ⟨⟨rfl, rfl⟩, ⟨rfl, rfl, rfl, rfl⟩, HI.out⟩
  case done =>
    rintro W ⟨hp, h5, h6, hB⟩ hK
    have c6 : W.cell? ⟨w.heap.size + 1, 0, none⟩ = some (.bool false) := by rw [h6.cell]; rfl
    have f6 : W.frozen? ⟨w.heap.size + 1, 0, none⟩ = false := h6.frozen 0
    have HP := hide (show (xs.any fun y => y == want) = false by
      rw [List.any_eq_false]
      exact fun y hy => by rw [hp y hy]; decide)
    have hK' : (W.setCell ⟨w.heap.size + 1, 0, none⟩ (.bool false)).heap[W0.heap.size]? = some (.deferred (some [])) := (Below.heap_setCell W _ _ _ (by simp; omega)).trans hK
    have hS := (h6.set_ 0 (.bool false)).same (World.putObj_heap_other (w := W.setCell ⟨w.heap.size + 1, 0, none⟩ (.bool false)) (r := W0.heap.size) (k := w.heap.size + 1) (o := .deferred none) (by omega))
    have hc5 : ((W.setCell ⟨w.heap.size + 1, 0, none⟩ (.bool false)).putObj W0.heap.size (.deferred none)).cell? ⟨w.heap.size + 1, 0, none⟩ = some (.bool false) := by rw [hS.cell]; rfl
    have HB := hide ((hB.setCell (p := ⟨w.heap.size + 1, 0, none⟩) (by simp) (.bool false)).trans ((only_putObj (W.setCell ⟨w.heap.size + 1, 0, none⟩ (.bool false)) W0.heap.size (.deferred none)).below (B := w.heap.size) (hB.setCell (p := ⟨w.heap.size + 1, 0, none⟩) (by simp) (.bool false)).size (fun i hi => by omega)))
    have HC := hide hc5
    have HK := hide hK'
    clear hp h5 h6 hB hK hK' hS hc5
    gi_wp2
    refine ⟨by simp, .inl ⟨_, _, rfl, run_takeDeferred HK.out, ?_⟩⟩
    have hc5 := HC.out
    refine ⟨.bool false, ?_, by rw [HP.out], HB.out⟩
    simp [results, Try.f42, go_sem, hc5]
  case stop =>
    rintro c pre W hpre ⟨rfl, hy, h6, hB⟩ hK
    have HP := hide (show (xs.any fun y => y == want) = true by
      obtain ⟨y, h1, h2⟩ := hy
      exact List.any_eq_true.2 ⟨y, hpre.subset h1, h2⟩)
    have hS := h6.same (World.putObj_heap_other (w := W) (r := W0.heap.size) (k := w.heap.size + 1) (o := .deferred none) (by omega))
    have hc5 : (W.putObj W0.heap.size (.deferred none)).cell? ⟨w.heap.size + 1, 0, none⟩ = some (.bool true) := by rw [hS.cell]; rfl
    have HB := hide (hB.trans ((only_putObj W W0.heap.size (.deferred none)).below (B := w.heap.size) hB.size (fun i hi => by omega)))
    have HK := hide hK
    have HC := hide hc5
    clear hy h6 hB hK hS hc5
    gi_wp2
    refine ⟨by simp, .inl ⟨_, _, rfl, run_takeDeferred HK.out, ?_⟩⟩
    have hc5 := HC.out
    refine ⟨.bool true, ?_, by rw [HP.out], HB.out⟩
    simp [results, Try.f42, go_sem, hc5]
end Go.Proofs.Ytmjogpacajbngaa
