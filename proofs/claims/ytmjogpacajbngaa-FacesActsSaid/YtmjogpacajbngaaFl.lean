/- The chapter's examples: chapter, awake. No condition but those written. -/
import Derived.Test.YtmjogpacajbngaaFi
import Derived.Test.YtmjogpacajbngaaFk
namespace Go.Proofs.Ytmjogpacajbngaa
open Go.RowKit

abbrev sWarn : ByteArray := ⟨#[119, 97, 114, 110]⟩
abbrev sLoud : ByteArray := ⟨#[108, 111, 117, 100]⟩
abbrev sCalm : ByteArray := ⟨#[99, 97, 108, 109]⟩
abbrev aDef : Att := ⟨7, 0, 0, 0, 0, ⟨#[]⟩⟩
abbrev aWarn : Att := ⟨2, 0, 1, 0, 0, ⟨#[]⟩⟩
abbrev aLoud : Att := ⟨0, 0, 0, 0, 1, sWarn⟩
abbrev aCalm : Att := ⟨257, 0, 2, 0, 0, ⟨#[]⟩⟩
def D1 : Fm := [(dflt, aDef)]
def D2 : Fm := [(dflt, aDef), (sWarn, aWarn)]
def D3 : Fm := [(dflt, aDef), (sWarn, aWarn), (sLoud, aLoud)]
def D4 : Fm := [(dflt, aDef), (sWarn, aWarn), (sLoud, aLoud), (sCalm, aCalm)]
theorem chain_one {D : Fm} {s : ByteArray} (h : s ≠ ⟨#[]⟩) (hi : (lookZ D s).inh = ⟨#[]⟩) : Chain D s [s] := .cons h (hi ▸ .nil)
theorem chain_two {D : Fm} {s t : ByteArray} (h : s ≠ ⟨#[]⟩) (ht : t ≠ ⟨#[]⟩) (hs : (lookZ D s).inh = t) (hi : (lookZ D t).inh = ⟨#[]⟩) : Chain D s [s, t] := .cons h (by rw [hs]; exact chain_one ht hi)
theorem ch_warn3 : Chain D2 sWarn [sWarn] := chain_one (by decide) (by kernel_rfl)
theorem ch_d : Chain D4 dflt [dflt] := chain_one (by decide) (by kernel_rfl)
theorem ch_w : Chain D4 sWarn [sWarn] := chain_one (by decide) (by kernel_rfl)
theorem ch_l : Chain D4 sLoud [sLoud, sWarn] := chain_two (by decide) (by decide) (by kernel_rfl) (by kernel_rfl)
theorem ch_c : Chain D4 sCalm [sCalm] := chain_one (by decide) (by kernel_rfl)
theorem look_mem {D : Fm} {s : ByteArray} (h : (look D s).isSome = true) : ∃ a, (s, a) ∈ D := by
  unfold look at h
  rw [Option.isSome_map] at h
  obtain ⟨x, hx⟩ := Option.isSome_iff_exists.1 h
  have h1 := List.find?_some hx
  have h2 := List.mem_of_find?_eq_some hx
  obtain rfl : s = x.1 := (MapKept.bytes_beq _ _).1 h1
  exact ⟨x.2, h2⟩
theorem chained4 : Chained D4 := by
  intro s hs
  obtain ⟨a, ha⟩ := look_mem hs
  simp only [D4, List.mem_cons, List.not_mem_nil, or_false, Prod.mk.injEq] at ha
  rcases ha with ⟨rfl, _⟩ | ⟨rfl, _⟩ | ⟨rfl, _⟩ | ⟨rfl, _⟩
  · exact ⟨_, ch_d⟩
  · exact ⟨_, ch_w⟩
  · exact ⟨_, ch_l⟩
  · exact ⟨_, ch_c⟩
theorem full_at {D : Fm} {s : ByteArray} {xs : List ByteArray} (h : Chain D s xs) (hk : (look D s).isSome = true) : fullA D s = fullOf D xs := by
  unfold fullA
  rw [hk, if_pos rfl, chainOf_eq h]
theorem res_loud : lookV (over (accum D4 [sLoud]) (fullA D4 dflt)) = .agg #[.int .i64 2, .int .i64 0, .bool true, .bool false, .bool true] := by
  rw [show accum D4 [sLoud] = over attZero (fullA D4 sLoud) from rfl, full_at ch_l (by kernel_rfl), full_at ch_d (by kernel_rfl)]
  kernel_rfl
theorem res_both : lookV (over (accum D4 [sCalm, sLoud]) (fullA D4 dflt)) = .agg #[.int .i64 0, .int .i64 0, .bool false, .bool false, .bool true] := by
  rw [show accum D4 [sCalm, sLoud] = over (over attZero (fullA D4 sCalm)) (fullA D4 sLoud) from rfl, full_at ch_l (by kernel_rfl), full_at ch_c (by kernel_rfl), full_at ch_d (by kernel_rfl)]
  kernel_rfl
theorem def1 {W w : World} {fb mb : Nat} {R : Heap} (h : FaAt W w fb mb [(dflt, attZero)] R) : Calls Try.prog 19 #[.pointer (some ⟨fb, 0, none⟩), .string dflt, aDef.val] w fun e w' => e = .returned (.int .i64 0) ∧ FaAt W w' fb mb D1 R :=
  define_ok1e h dflt aDef (by decide) (by kernel_rfl) (by kernel_rfl) rfl (by kernel_rfl)
theorem def2 {W w : World} {fb mb : Nat} {R : Heap} (h : FaAt W w fb mb D1 R) : Calls Try.prog 19 #[.pointer (some ⟨fb, 0, none⟩), .string sWarn, aWarn.val] w fun e w' => e = .returned (.int .i64 0) ∧ FaAt W w' fb mb D2 R :=
  define_ok2e h sWarn aWarn (by decide) (by kernel_rfl) (by kernel_rfl) rfl (by kernel_rfl) (by decide)
theorem def3 {W w : World} {fb mb : Nat} {R : Heap} (h : FaAt W w fb mb D2 R) : Calls Try.prog 19 #[.pointer (some ⟨fb, 0, none⟩), .string sLoud, aLoud.val] w fun e w' => e = .returned (.int .i64 0) ∧ FaAt W w' fb mb D3 R :=
  define_ok2i h sLoud aLoud (by decide) (by kernel_rfl) (by kernel_rfl) (by decide) (by decide) (by kernel_rfl) (by kernel_rfl) ch_warn3 (by kernel_rfl) (by kernel_rfl) (by decide)
theorem def4 {W w : World} {fb mb : Nat} {R : Heap} (h : FaAt W w fb mb D3 R) : Calls Try.prog 19 #[.pointer (some ⟨fb, 0, none⟩), .string sCalm, aCalm.val] w fun e w' => e = .returned (.int .i64 0) ∧ FaAt W w' fb mb D4 R :=
  define_ok2e h sCalm aCalm (by decide) (by kernel_rfl) (by kernel_rfl) rfl (by kernel_rfl) (by decide)
theorem def5 {W w : World} {fb mb : Nat} {R : Heap} (h : FaAt W w fb mb D4 R) : Calls Try.prog 19 #[.pointer (some ⟨fb, 0, none⟩), .string sWarn, (⟨0, 0, 0, 0, 0, sLoud⟩ : Att).val] w fun e w' => e = .returned (.int .i64 16) ∧ FaAt W w' fb mb D4 R :=
  define_loop h sWarn ⟨0, 0, 0, 0, 0, sLoud⟩ (by decide) (by kernel_rfl) (by kernel_rfl) (by decide) (by decide) (by kernel_rfl) (by kernel_rfl) ch_l (by kernel_rfl)
set_option maxRecDepth 100000 in
set_option maxHeartbeats 8000000 in
theorem chapter_any (w : World) : Calls Try.prog 25 #[] w fun e w' => ∃ fb mb, e = .returned (.pointer (some ⟨fb, 0, none⟩)) ∧ FaAt w w' fb mb D4 [] := by
  have HN := hide (new_any (Own.refl w))
  go_enter Try.func25, Try.ntmps25
  go_wp2_with fail
  refine (Calls.mono (HN.out)) ?_
  rintro r w2 ⟨fb, mb, rfl, h2⟩
  have H2 := hide h2
  clear h2 HN
  go_wp2_with fail
  refine (Calls.mono (def1 H2.out)) ?_
  rintro r w3 ⟨rfl, h3⟩
  have H3 := hide h3
  clear h3 H2
  go_wp2_with fail
  refine (Calls.mono (def2 H3.out)) ?_
  rintro r w4 ⟨rfl, h4⟩
  have H4 := hide h4
  clear h4 H3
  go_wp2_with fail
  refine (Calls.mono (def3 H4.out)) ?_
  rintro r w5 ⟨rfl, h5⟩
  have H5 := hide h5
  clear h5 H4
  go_wp2_with fail
  refine (Calls.mono (def4 H5.out)) ?_
  rintro r w6 ⟨rfl, h6⟩
  have H6 := hide h6
  clear h6 H5
  go_wp2
  go_ret
  exact ⟨fb, mb, rfl, H6.out⟩
end Go.Proofs.Ytmjogpacajbngaa
