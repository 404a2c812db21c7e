/- edited: a part of a text is replaced, and the log told. No condition but those written. -/
import Derived.Test.YtghcmakhfdnimaaDoorUby
namespace Go.Proofs.YtghcmakhfdnimaaDoor
open Go.RowKit

section
variable {W w w' : World} {lb rb : Nat} {s s' : Lg} {L L' M : List Nat} {R : Heap} {S : Nat → List Nat} {K a d : Nat} {t : ByteArray}
set_option maxRecDepth 100000 in
set_option maxHeartbeats 8000000 in
theorem edited_ci (h : UAt W w lb s rb L R) (hf : Fine s S L K) (hK : K ≤ 500) (hT : Rules W) (hi : EdIn L M L' a d t) (hd : a < d) (ht : t ≠ ⟨#[]⟩) : Calls Tryd.prog 16 #[.pointer (some ⟨rb, 0, none⟩), .pointer (some ⟨lb, 0, none⟩), .int .i64 (a : Int), .int .i64 (d : Int), .string t] w (EdRes W lb s rb S L' (K + 1 + 1) R (False)) := by
  have h6 : L.length ≤ 65536 := by have := hi.l.len; omega
  have hm6 : M.length ≤ 65536 := by have := hi.tm.len; omega
  have hok := hi.l.ok
  have hal : (a : Int) ≤ 2000 := by have := hi.a1; have := hi.ad; have := hi.dl; have := hi.l.len; omega
  obtain ⟨G, hG⟩ : ∃ G, G = strOf ((L.drop (a - 1)).take (d - a)) := ⟨_, rfl⟩
  have st1 := hi.step1 hd
  rw [← hG] at st1
  have hGs : G.size ≤ 6000 := hG ▸ hi.size
  have hGn : G.toList.isEmpty = false := ne_empty st1.rem_ne
  obtain ⟨hf1, g1, o1, c1⟩ := hf.add (by omega) st1
  obtain ⟨s1, hs1⟩ : ∃ s1, s1 = s.add (remC (a : Int) G) := ⟨_, rfl⟩
  rw [← hs1] at hf1 g1 o1 c1
  have st2 := hi.step2 ht
  have htn : t.toList.isEmpty = false := ne_empty ht
  obtain ⟨hf2, g2, o2, c2⟩ := hf1.add (by omega) st2
  obtain ⟨z, hz⟩ : ∃ z : Int, z = (a : Int) + (lenS t : Int) := ⟨_, rfl⟩
  have hw : IntKind.i64.wrap ((a : Int) + (lenS t : Int)) = z := by rw [hz]; exact IntWalk.i64_in _ (by have := lenS_le t; have := hi.ts; omega)
  rw [← hz] at st2 hf2 g2 o2 c2
  obtain ⟨s2, hs2⟩ : ∃ s2, s2 = s1.add (insC (a : Int) z) := ⟨_, rfl⟩
  rw [← hs2] at hf2 g2 o2 c2
  have HLEN := hide (fun w => reflen_any t w (by have := hi.ts; omega))
  have HIC := hide (fun w => insert_any (a : Int) z w)
  have HA2 := hide (fun w (h : UAt W w lb s1 rb L' R) => (show Calls Tryd.prog 21 #[.pointer (some ⟨lb, 0, none⟩), (insC (a : Int) z).val] w (fun e w' => e = .returned (.int .i64 0) ∧ UAt W w' lb s2 rb L' R) from hs2 ▸ uadd_any h hf1.good (hf1.small (by omega)) hT _ st2.tx st2.check))
  have HSL := hide (show Calls Tryd.prog 42 #[.pointer (some ⟨rb, 0, none⟩), .int .i64 (a : Int), .int .i64 (d : Int)] w (fun e w' => e = .returned (.tuple #[.string G, .int .i64 0]) ∧ UAt W w' lb s rb L R) from by have := uslice_any h h6 hok (a : Int) (d : Int); rwa [hi.slice, ← hG] at this)
  have HDE := hide (fun w (h : UAt W w lb s rb L R) => (show Calls Tryd.prog 43 #[.pointer (some ⟨rb, 0, none⟩), .int .i64 (a : Int), .int .i64 (d : Int)] w (fun e w' => e = .returned (.int .i64 0) ∧ UAt W w' lb s rb M R) from by have := udel_any h h6 (a : Int) (d : Int); rwa [hi.del.1, hi.del.2] at this))
  have HIN := hide (fun w (h : UAt W w lb s1 rb M R) => (show Calls Tryd.prog 44 #[.pointer (some ⟨rb, 0, none⟩), .int .i64 (a : Int), .string t] w (fun e w' => e = .returned (.int .i64 0) ∧ UAt W w' lb s1 rb L' R) from by have := uins_any h hm6 (a : Int) t hi.ts; rwa [hi.ins.1, hi.ins.2] at this))
  have HRC := hide (fun w => remove_any (a : Int) G w)
  have HA1 := hide (fun w (h : UAt W w lb s rb M R) => (show Calls Tryd.prog 21 #[.pointer (some ⟨lb, 0, none⟩), (remC (a : Int) G).val] w (fun e w' => e = .returned (.int .i64 0) ∧ UAt W w' lb s1 rb M R) from hs1 ▸ uadd_any h hf.good (hf.small (by omega)) hT _ st1.tx st1.check))
  have HEND := hide (show Ed s s2 S L' (K + 1 + 1) ∧ (s2.O = [] ↔ s.O = [] ∧ False) from ⟨⟨hf2, g2.trans g1, c2.trans c1⟩, ⟨fun e => absurd e o2, fun e => e.2.elim⟩⟩)
  have HGN := hide hGn
  have z1 : (!G.toList.isEmpty) = true := by rw [hGn]; rfl
  clear h hf hK hT hi hd ht h6 hm6 hok hG st1 hGs hf1 g1 o1 c1 hs1 st2 hf2 g2 o2 c2 hz hs2
  go_enter Tryd.func16, Tryd.ntmps16
  go_wp2_with fail
  refine (Calls.mono (HSL.out)) ?_
  rintro r w2 ⟨rfl, h2⟩
  have HDE2 := hide (HDE.out _ h2)
  clear h2
  go_wp2_with fail
  refine (Calls.mono (HDE2.out)) ?_
  rintro r w3 ⟨rfl, h3⟩
  have H3 := hide h3
  clear h3 HSL HDE HDE2
  go_wp2_with fail
  refine (Calls.mono (HRC.out _)) ?_
  rintro r w4 ⟨rfl, b4⟩
  have HA1b := hide (HA1.out _ (H3.out.below b4))
  clear b4 HRC HA1
  go_wp2_with fail
  refine (Calls.mono (HA1b.out)) ?_
  rintro r w5 ⟨rfl, h5⟩
  have H5 := hide h5
  clear h5 HA1b H3
  have HINb := hide (HIN.out _ H5.out)
  clear HIN
  go_wp2_with fail
  refine (Calls.mono (HINb.out)) ?_
  rintro r w6 ⟨rfl, h6⟩
  have H6 := hide h6
  clear h6 HINb H5
  go_wp2_with fail
  refine (Calls.mono (HLEN.out _)) ?_
  rintro r w7 ⟨rfl, b7⟩
  have H7 := hide (H6.out.below b7)
  clear b7 HLEN H6
  go_wp2_with fail
  refine (Calls.mono (HIC.out _)) ?_
  rintro r w8 ⟨rfl, b8⟩
  have HA2b := hide (HA2.out _ (H7.out.below b8))
  clear b8 HIC HA2 H7
  go_wp2_with fail
  refine (Calls.mono (HA2b.out)) ?_
  rintro r w9 ⟨rfl, h9⟩
  have H9 := hide h9
  clear h9 HA2b
  go_wp2
  go_ret
  exact ⟨rfl, _, H9.out, HEND.out⟩
set_option maxRecDepth 100000 in
set_option maxHeartbeats 8000000 in
theorem edited_cn (h : UAt W w lb s rb L R) (hf : Fine s S L K) (hK : K ≤ 500) (hT : Rules W) (hi : EdIn L M L' a d t) (hd : a < d) (ht : t = ⟨#[]⟩) : Calls Tryd.prog 16 #[.pointer (some ⟨rb, 0, none⟩), .pointer (some ⟨lb, 0, none⟩), .int .i64 (a : Int), .int .i64 (d : Int), .string t] w (EdRes W lb s rb S L' (K + 1) R (False)) := by
  have h6 : L.length ≤ 65536 := by have := hi.l.len; omega
  have hm6 : M.length ≤ 65536 := by have := hi.tm.len; omega
  have hok := hi.l.ok
  have hal : (a : Int) ≤ 2000 := by have := hi.a1; have := hi.ad; have := hi.dl; have := hi.l.len; omega
  obtain ⟨G, hG⟩ : ∃ G, G = strOf ((L.drop (a - 1)).take (d - a)) := ⟨_, rfl⟩
  have st1 := hi.step1 hd
  rw [← hG] at st1
  have hGs : G.size ≤ 6000 := hG ▸ hi.size
  have hGn : G.toList.isEmpty = false := ne_empty st1.rem_ne
  obtain ⟨hf1, g1, o1, c1⟩ := hf.add (by omega) st1
  obtain ⟨s1, hs1⟩ : ∃ s1, s1 = s.add (remC (a : Int) G) := ⟨_, rfl⟩
  rw [← hs1] at hf1 g1 o1 c1
  have htn : t.toList.isEmpty = true := empty_is ht
  have hf2 : Fine s1 S L' (K + 1) := by rw [hi.same2 ht]; exact hf1
  have HSL := hide (show Calls Tryd.prog 42 #[.pointer (some ⟨rb, 0, none⟩), .int .i64 (a : Int), .int .i64 (d : Int)] w (fun e w' => e = .returned (.tuple #[.string G, .int .i64 0]) ∧ UAt W w' lb s rb L R) from by have := uslice_any h h6 hok (a : Int) (d : Int); rwa [hi.slice, ← hG] at this)
  have HDE := hide (fun w (h : UAt W w lb s rb L R) => (show Calls Tryd.prog 43 #[.pointer (some ⟨rb, 0, none⟩), .int .i64 (a : Int), .int .i64 (d : Int)] w (fun e w' => e = .returned (.int .i64 0) ∧ UAt W w' lb s rb M R) from by have := udel_any h h6 (a : Int) (d : Int); rwa [hi.del.1, hi.del.2] at this))
  have HIN := hide (fun w (h : UAt W w lb s1 rb M R) => (show Calls Tryd.prog 44 #[.pointer (some ⟨rb, 0, none⟩), .int .i64 (a : Int), .string t] w (fun e w' => e = .returned (.int .i64 0) ∧ UAt W w' lb s1 rb L' R) from by have := uins_any h hm6 (a : Int) t hi.ts; rwa [hi.ins.1, hi.ins.2] at this))
  have HRC := hide (fun w => remove_any (a : Int) G w)
  have HA1 := hide (fun w (h : UAt W w lb s rb M R) => (show Calls Tryd.prog 21 #[.pointer (some ⟨lb, 0, none⟩), (remC (a : Int) G).val] w (fun e w' => e = .returned (.int .i64 0) ∧ UAt W w' lb s1 rb M R) from hs1 ▸ uadd_any h hf.good (hf.small (by omega)) hT _ st1.tx st1.check))
  have HEND := hide (show Ed s s1 S L' (K + 1) ∧ (s1.O = [] ↔ s.O = [] ∧ False) from ⟨⟨hf2, g1, c1⟩, ⟨fun e => absurd e o1, fun e => e.2.elim⟩⟩)
  have HGN := hide hGn
  have z1 : (!G.toList.isEmpty) = true := by rw [hGn]; rfl
  clear h hf hK hT hi hd ht h6 hm6 hok hG st1 hGs hf1 g1 o1 c1 hs1 hf2
  go_enter Tryd.func16, Tryd.ntmps16
  go_wp2_with fail
  refine (Calls.mono (HSL.out)) ?_
  rintro r w2 ⟨rfl, h2⟩
  have HDE2 := hide (HDE.out _ h2)
  clear h2
  go_wp2_with fail
  refine (Calls.mono (HDE2.out)) ?_
  rintro r w3 ⟨rfl, h3⟩
  have H3 := hide h3
  clear h3 HSL HDE HDE2
  go_wp2_with fail
  refine (Calls.mono (HRC.out _)) ?_
  rintro r w4 ⟨rfl, b4⟩
  have HA1b := hide (HA1.out _ (H3.out.below b4))
  clear b4 HRC HA1
  go_wp2_with fail
  refine (Calls.mono (HA1b.out)) ?_
  rintro r w5 ⟨rfl, h5⟩
  have H5 := hide h5
  clear h5 HA1b H3
  have HINb := hide (HIN.out _ H5.out)
  clear HIN
  go_wp2_with fail
  refine (Calls.mono (HINb.out)) ?_
  rintro r w6 ⟨rfl, h6⟩
  have H6 := hide h6
  clear h6 HINb H5
  go_wp2
  go_ret
  exact ⟨rfl, _, H6.out, HEND.out⟩
set_option maxRecDepth 100000 in
set_option maxHeartbeats 8000000 in
theorem edited_ni (h : UAt W w lb s rb L R) (hf : Fine s S L K) (hK : K ≤ 500) (hT : Rules W) (hi : EdIn L M L' a d t) (hd : ¬ a < d) (ht : t ≠ ⟨#[]⟩) : Calls Tryd.prog 16 #[.pointer (some ⟨rb, 0, none⟩), .pointer (some ⟨lb, 0, none⟩), .int .i64 (a : Int), .int .i64 (d : Int), .string t] w (EdRes W lb s rb S L' (K + 1) R (False)) := by
  have h6 : L.length ≤ 65536 := by have := hi.l.len; omega
  have hm6 : M.length ≤ 65536 := by have := hi.tm.len; omega
  have hok := hi.l.ok
  have hal : (a : Int) ≤ 2000 := by have := hi.a1; have := hi.ad; have := hi.dl; have := hi.l.len; omega
  obtain ⟨G, hG⟩ : ∃ G, G = strOf ((L.drop (a - 1)).take (d - a)) := ⟨_, rfl⟩
  have hGn : G.toList.isEmpty = true := empty_is (by rw [hG, show d - a = 0 by have := hi.ad; omega, List.take_zero, strOf_nil])
  have hML := hi.same hd
  have hf1 : Fine s S M K := by rw [hML]; exact hf
  have st2 := hi.step2 ht
  have htn : t.toList.isEmpty = false := ne_empty ht
  obtain ⟨hf2, g2, o2, c2⟩ := hf1.add (by omega) st2
  obtain ⟨z, hz⟩ : ∃ z : Int, z = (a : Int) + (lenS t : Int) := ⟨_, rfl⟩
  have hw : IntKind.i64.wrap ((a : Int) + (lenS t : Int)) = z := by rw [hz]; exact IntWalk.i64_in _ (by have := lenS_le t; have := hi.ts; omega)
  rw [← hz] at st2 hf2 g2 o2 c2
  obtain ⟨s2, hs2⟩ : ∃ s2, s2 = s.add (insC (a : Int) z) := ⟨_, rfl⟩
  rw [← hs2] at hf2 g2 o2 c2
  have HLEN := hide (fun w => reflen_any t w (by have := hi.ts; omega))
  have HIC := hide (fun w => insert_any (a : Int) z w)
  have HA2 := hide (fun w (h : UAt W w lb s rb L' R) => (show Calls Tryd.prog 21 #[.pointer (some ⟨lb, 0, none⟩), (insC (a : Int) z).val] w (fun e w' => e = .returned (.int .i64 0) ∧ UAt W w' lb s2 rb L' R) from hs2 ▸ uadd_any h hf1.good (hf1.small (by omega)) hT _ st2.tx st2.check))
  have HSL := hide (show Calls Tryd.prog 42 #[.pointer (some ⟨rb, 0, none⟩), .int .i64 (a : Int), .int .i64 (d : Int)] w (fun e w' => e = .returned (.tuple #[.string G, .int .i64 0]) ∧ UAt W w' lb s rb L R) from by have := uslice_any h h6 hok (a : Int) (d : Int); rwa [hi.slice, ← hG] at this)
  have HDE := hide (fun w (h : UAt W w lb s rb L R) => (show Calls Tryd.prog 43 #[.pointer (some ⟨rb, 0, none⟩), .int .i64 (a : Int), .int .i64 (d : Int)] w (fun e w' => e = .returned (.int .i64 0) ∧ UAt W w' lb s rb M R) from by have := udel_any h h6 (a : Int) (d : Int); rwa [hi.del.1, hi.del.2] at this))
  have HIN := hide (fun w (h : UAt W w lb s rb M R) => (show Calls Tryd.prog 44 #[.pointer (some ⟨rb, 0, none⟩), .int .i64 (a : Int), .string t] w (fun e w' => e = .returned (.int .i64 0) ∧ UAt W w' lb s rb L' R) from by have := uins_any h hm6 (a : Int) t hi.ts; rwa [hi.ins.1, hi.ins.2] at this))
  have HEND := hide (show Ed s s2 S L' (K + 1) ∧ (s2.O = [] ↔ s.O = [] ∧ False) from ⟨⟨hf2, g2, c2⟩, ⟨fun e => absurd e o2, fun e => e.2.elim⟩⟩)
  have HGN := hide hGn
  have z1 : (!G.toList.isEmpty) = false := by rw [hGn]; rfl
  clear h hf hK hT hi hd ht h6 hm6 hok hG hML hf1 st2 hf2 g2 o2 c2 hz hs2
  go_enter Tryd.func16, Tryd.ntmps16
  go_wp2_with fail
  refine (Calls.mono (HSL.out)) ?_
  rintro r w2 ⟨rfl, h2⟩
  have HDE2 := hide (HDE.out _ h2)
  clear h2
  go_wp2_with fail
  refine (Calls.mono (HDE2.out)) ?_
  rintro r w3 ⟨rfl, h3⟩
  have H3 := hide h3
  clear h3 HSL HDE HDE2
  have HINb := hide (HIN.out _ H3.out)
  clear HIN
  go_wp2_with fail
  refine (Calls.mono (HINb.out)) ?_
  rintro r w6 ⟨rfl, h6⟩
  have H6 := hide h6
  clear h6 HINb H3
  go_wp2_with fail
  refine (Calls.mono (HLEN.out _)) ?_
  rintro r w7 ⟨rfl, b7⟩
  have H7 := hide (H6.out.below b7)
  clear b7 HLEN H6
  go_wp2_with fail
  refine (Calls.mono (HIC.out _)) ?_
  rintro r w8 ⟨rfl, b8⟩
  have HA2b := hide (HA2.out _ (H7.out.below b8))
  clear b8 HIC HA2 H7
  go_wp2_with fail
  refine (Calls.mono (HA2b.out)) ?_
  rintro r w9 ⟨rfl, h9⟩
  have H9 := hide h9
  clear h9 HA2b
  go_wp2
  go_ret
  exact ⟨rfl, _, H9.out, HEND.out⟩
set_option maxRecDepth 100000 in
set_option maxHeartbeats 8000000 in
theorem edited_nn (h : UAt W w lb s rb L R) (hf : Fine s S L K) (hK : K ≤ 500) (hT : Rules W) (hi : EdIn L M L' a d t) (hd : ¬ a < d) (ht : t = ⟨#[]⟩) : Calls Tryd.prog 16 #[.pointer (some ⟨rb, 0, none⟩), .pointer (some ⟨lb, 0, none⟩), .int .i64 (a : Int), .int .i64 (d : Int), .string t] w (EdRes W lb s rb S L' (K) R (True)) := by
  have h6 : L.length ≤ 65536 := by have := hi.l.len; omega
  have hm6 : M.length ≤ 65536 := by have := hi.tm.len; omega
  have hok := hi.l.ok
  have hal : (a : Int) ≤ 2000 := by have := hi.a1; have := hi.ad; have := hi.dl; have := hi.l.len; omega
  obtain ⟨G, hG⟩ : ∃ G, G = strOf ((L.drop (a - 1)).take (d - a)) := ⟨_, rfl⟩
  have hGn : G.toList.isEmpty = true := empty_is (by rw [hG, show d - a = 0 by have := hi.ad; omega, List.take_zero, strOf_nil])
  have hML := hi.same hd
  have hf1 : Fine s S M K := by rw [hML]; exact hf
  have htn : t.toList.isEmpty = true := empty_is ht
  have hf2 : Fine s S L' (K) := by rw [hi.same2 ht]; exact hf1
  have HSL := hide (show Calls Tryd.prog 42 #[.pointer (some ⟨rb, 0, none⟩), .int .i64 (a : Int), .int .i64 (d : Int)] w (fun e w' => e = .returned (.tuple #[.string G, .int .i64 0]) ∧ UAt W w' lb s rb L R) from by have := uslice_any h h6 hok (a : Int) (d : Int); rwa [hi.slice, ← hG] at this)
  have HDE := hide (fun w (h : UAt W w lb s rb L R) => (show Calls Tryd.prog 43 #[.pointer (some ⟨rb, 0, none⟩), .int .i64 (a : Int), .int .i64 (d : Int)] w (fun e w' => e = .returned (.int .i64 0) ∧ UAt W w' lb s rb M R) from by have := udel_any h h6 (a : Int) (d : Int); rwa [hi.del.1, hi.del.2] at this))
  have HIN := hide (fun w (h : UAt W w lb s rb M R) => (show Calls Tryd.prog 44 #[.pointer (some ⟨rb, 0, none⟩), .int .i64 (a : Int), .string t] w (fun e w' => e = .returned (.int .i64 0) ∧ UAt W w' lb s rb L' R) from by have := uins_any h hm6 (a : Int) t hi.ts; rwa [hi.ins.1, hi.ins.2] at this))
  have HEND := hide (show Ed s s S L' (K) ∧ (s.O = [] ↔ s.O = [] ∧ True) from ⟨⟨hf2, rfl, rfl⟩, ⟨fun e => ⟨e, trivial⟩, fun e => e.1⟩⟩)
  have HGN := hide hGn
  have z1 : (!G.toList.isEmpty) = false := by rw [hGn]; rfl
  clear h hf hK hT hi hd ht h6 hm6 hok hG hML hf1 hf2
  go_enter Tryd.func16, Tryd.ntmps16
  go_wp2_with fail
  refine (Calls.mono (HSL.out)) ?_
  rintro r w2 ⟨rfl, h2⟩
  have HDE2 := hide (HDE.out _ h2)
  clear h2
  go_wp2_with fail
  refine (Calls.mono (HDE2.out)) ?_
  rintro r w3 ⟨rfl, h3⟩
  have H3 := hide h3
  clear h3 HSL HDE HDE2
  have HINb := hide (HIN.out _ H3.out)
  clear HIN
  go_wp2_with fail
  refine (Calls.mono (HINb.out)) ?_
  rintro r w6 ⟨rfl, h6⟩
  have H6 := hide h6
  clear h6 HINb H3
  go_wp2
  go_ret
  exact ⟨rfl, _, H6.out, HEND.out⟩
end
end Go.Proofs.YtghcmakhfdnimaaDoor
