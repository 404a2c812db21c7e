/- PropsLast: the walk. No condition but those written. -/
import Derived.Test.YtgiogmbopiblmaaPqw
import Derived.Deep.QuietTactic
import Derived.BigQuiet
import Derived.Deep.CutBlock
import Derived.Deep.DeepCutAuto
namespace Go.Proofs.Ytgiogmbopiblmaa
open Go.RowKit

theorem lsm_start {W w w3 : World} {b s : Nat} {ZB ZW : Array Value} {gA gV : Nat} (h : Obj W w b []) (hb : Below w.heap.size w w3) (h1 : Blk w3 gA 4 ZB) (h2 : Blk w3 gV 29 ZW) (g1 : w.heap.size ≤ gA) (g2 : w.heap.size ≤ gV) (e1 : ZB.toList = rows boC (List.replicate s false)) (e2 : ZW.toList = rows woC (List.replicate s (0, 0))) (hs : s ≤ 100) :
    LsM W w3 b [] (List.replicate s false) (List.replicate s (0, 0)) (.slice (some ⟨gA, 0, none⟩) s s) (.slice (some ⟨gV, 0, none⟩) s s) s := by
  have l1 := congrArg List.length e1
  have l2 := congrArg List.length e2
  rw [rows_len boC_len, List.length_replicate, Array.length_toList] at l1
  rw [rows_len woC_len, List.length_replicate, Array.length_toList] at l2
  have hm : s ≤ maxLen := by unfold maxLen; omega
  refine ⟨h.below hb, by simp, by simp, ⟨by rw [rows_len boC_len, List.length_replicate], .inr ⟨gA, 0, s, ZB, rfl, h1, Nat.le_refl _, hm, by omega, ?_⟩⟩, ⟨by rw [rows_len woC_len, List.length_replicate], .inr ⟨gV, 0, s, ZW, rfl, h2, Nat.le_refl _, hm, by omega, ?_⟩⟩, ⟨gA, rfl, Nat.le_trans h.bel.size g1⟩, ⟨gV, rfl, Nat.le_trans h.bel.size g2⟩⟩
  · rw [List.drop_zero, e1]
    exact List.take_of_length_le (by rw [rows_len boC_len, List.length_replicate]; exact Nat.le_refl _)
  · rw [List.drop_zero, e2]
    exact List.take_of_length_le (by rw [rows_len woC_len, List.length_replicate]; exact Nat.le_refl _)
/-- The block of a number within a code. -/
def subBlock (n : Nat) : Code → Option Code
  | .seq a b => match subBlock n a with
    | some c => some c
    | none => subBlock n b
  | .cond _ a b => match subBlock n a with
    | some c => some c
    | none => subBlock n b
  | .block m c => match Nat.beq m n with
    | true => some (.block m c)
    | false => subBlock n c
  | .loop c => subBlock n c
  | _ => none
/-- A part of a code that is left at its end alone. -/
def noExit : Exit → Act → World → Prop := fun _ _ _ => False
theorem part_in {P : Program} {c : Code} {K : Act → World → Prop} {R : Exit → Act → World → Prop} {a : Act} {w : World} (h : Code.wp P c (Exit.then K noExit) a w) : Code.wp P c (Exit.then K R) a w := by
  refine Code.wp_mono (fun e a w he => ?_) h
  cases e <;> first | exact he | exact he.elim
/-- What the choice leaves. -/
def SwRel (w : World) (b : Nat) (nm : Int) (n : Nat) (x8 x9 : Value) (w' : World) : Prop := ∃ (n' : Nat) (P' : List Pc) (H' : List Bool) (V' : List (Int × Int)), LsM w w' b P' H' V' x8 x9 n' ∧ Lst P' nm H' V' ∧ n' ≤ n + 3
set_option maxRecDepth 100000 in
set_option maxHeartbeats 32000000 in
theorem sw_0 {w wr : World} {b g off nn c k n f t gA oA cA gV oV cV : Nat} {nm : Int} {a : Ac} {P : List Pc} {H : List Bool} {V : List (Int × Int)} {K' : Act → World → Prop}  {u0 u3 u4 u5 u6 u11 u15 u16 u17 u18 u19 u20 u21 u22 u23 u24 u25 u26 u27 u28 u29 u30 u31 u32 u33 u34 u35 u36 u37 u38 u39 u40 u41 u42 u43 u44 u45 u46 u47 u48 u49 u50 u51 u52 u53 u54 u55 u56 u57 u58 u59 u60 u61 u62 u63 u64 u65 u66 u67 u68 u69 u70 u71 u73 u74 u75 u76 u77 u78 u79 u80 u81 u82 u83 u84 u85 u86 u87 u88 u89 u90 u91 u92 u93 u94 u95 u96 u97 u98 u99 u100 u101 u102 u103 u104 u105 u106 u107 u108 u109 u110 u111 u112 u113 u114 u115 u116 u117 u118 u119 u120 u121 u122 u123 u124 u125 u126 u127 u128 u129 u130 u131 u132 u133 u134 u135 u136 u137 u138 u139 u140 u141 u142 u143 u144 u145 u146 u147 u148 u149 u150 u151 u152 u153 u154 u155 u156 u157 u158 u159 u160 u161 u162 u163 u164 u165 u166 u167 u168 u169 u170 u171 u172 u173 u174 u175 u176 u177 u178 u179 u180 u181 u182 u183 u184 u185 u186 u187 u188 u189 u190 u191 u192 u193 u194 u195 u196 u197 u198 u199 u200 u201 u202 u203 u204 u205 u206 u207 u208 u209 u210 u211 u212 u213 u214 u215 u216 u217 u218 u219 u220 u221 u222 u223 u224 u225 u226 : Value}
    (hkn : k < nn) (h0 : 0 ≤ nm) (hn : n ≤ 190) (h1 : 1 ≤ f) (h2 : f ≤ t) (h3 : t ≤ n + 1) (hM : LsM w wr b P H V (.slice (some ⟨gA, oA, none⟩) n cA) (.slice (some ⟨gV, oV, none⟩) n cV) n) (hL : Lst P nm H V)
    (hC : ∀ x : World, Below w.heap.size w x → x.cell? ⟨g, off + k * 8 + 5, none⟩ = some (.int .i64 a.k) ∧ x.cell? ⟨g, off + k * 8 + 5 + 1, none⟩ = some (.int .i64 a.v)) (_hA1 : n ≤ cA) (_hV1 : n ≤ cV) (hA2 : cA ≤ maxLen) (hV2 : cV ≤ maxLen) (_d4 : wr.cell? ⟨g, off + k * 8 + 4, none⟩ = some (.int .i64 a.n))
    (CODE : Code) (hcode : CODE = (subBlock 2 ((Try.f5).body.getD .skip)).getD .skip)
    (hK : ∀ (x8 x9 : Value) (w' : World), SwRel w b nm n x8 x9 w' → ∀ (x15 x16 x17 x73 x74 x75 x76 x77 x78 x79 x80 x81 x82 x83 x84 x85 x86 x87 x88 x89 x90 x91 x92 x93 x94 x95 x96 x97 x98 x99 x100 x101 x102 x103 x104 x105 x106 x107 x108 x109 x110 x111 x112 x113 x114 x115 x116 x117 x118 x119 x120 x121 x122 x123 x124 x125 x126 x127 x128 x129 x130 x131 x132 x133 x134 x135 x136 x137 x138 x139 x140 x141 x142 x143 x144 x145 x146 x147 x148 x149 x150 x151 x152 x153 x154 x155 x156 x157 x158 x159 x160 x161 x162 x163 x164 x165 x166 x167 x168 x169 x170 x171 x172 x173 x174 x175 x176 x177 x178 x179 x180 x181 x182 x183 x184 x185 x186 : Value), K' { tmps := List.toArray (u0 :: .int .i64 nm :: .slice (some ⟨g, off, none⟩) nn c :: u3 :: u4 :: u5 :: u6 :: .pointer (some ⟨b, 0, none⟩) :: x8 :: x9 :: .int .i64 (k : Int) :: u11 :: .int .i64 (f : Int) :: .int .i64 (t : Int) :: .int .i64 0 :: x15 :: x16 :: x17 :: u18 :: u19 :: u20 :: u21 :: u22 :: u23 :: u24 :: u25 :: u26 :: u27 :: u28 :: u29 :: u30 :: u31 :: u32 :: u33 :: u34 :: u35 :: u36 :: u37 :: u38 :: u39 :: u40 :: u41 :: u42 :: u43 :: u44 :: u45 :: u46 :: u47 :: u48 :: u49 :: u50 :: u51 :: u52 :: u53 :: u54 :: u55 :: u56 :: u57 :: u58 :: u59 :: u60 :: u61 :: u62 :: u63 :: u64 :: u65 :: u66 :: u67 :: u68 :: u69 :: u70 :: u71 :: .int .i64 0 :: x73 :: x74 :: x75 :: x76 :: x77 :: x78 :: x79 :: x80 :: x81 :: x82 :: x83 :: x84 :: x85 :: x86 :: x87 :: x88 :: x89 :: x90 :: x91 :: x92 :: x93 :: x94 :: x95 :: x96 :: x97 :: x98 :: x99 :: x100 :: x101 :: x102 :: x103 :: x104 :: x105 :: x106 :: x107 :: x108 :: x109 :: x110 :: x111 :: x112 :: x113 :: x114 :: x115 :: x116 :: x117 :: x118 :: x119 :: x120 :: x121 :: x122 :: x123 :: x124 :: x125 :: x126 :: x127 :: x128 :: x129 :: x130 :: x131 :: x132 :: x133 :: x134 :: x135 :: x136 :: x137 :: x138 :: x139 :: x140 :: x141 :: x142 :: x143 :: x144 :: x145 :: x146 :: x147 :: x148 :: x149 :: x150 :: x151 :: x152 :: x153 :: x154 :: x155 :: x156 :: x157 :: x158 :: x159 :: x160 :: x161 :: x162 :: x163 :: x164 :: x165 :: x166 :: x167 :: x168 :: x169 :: x170 :: x171 :: x172 :: x173 :: x174 :: x175 :: x176 :: x177 :: x178 :: x179 :: x180 :: x181 :: x182 :: x183 :: x184 :: x185 :: x186 :: u187 :: u188 :: u189 :: u190 :: u191 :: u192 :: u193 :: u194 :: u195 :: u196 :: u197 :: u198 :: u199 :: u200 :: u201 :: u202 :: u203 :: u204 :: u205 :: u206 :: u207 :: u208 :: u209 :: u210 :: u211 :: u212 :: u213 :: u214 :: u215 :: u216 :: u217 :: u218 :: u219 :: u220 :: u221 :: u222 :: u223 :: u224 :: u225 :: u226 :: []), defers := [] } w') :
    Code.wp Try.prog CODE (Exit.then K' noExit) { tmps := List.toArray (u0 :: .int .i64 nm :: .slice (some ⟨g, off, none⟩) nn c :: u3 :: u4 :: u5 :: u6 :: .pointer (some ⟨b, 0, none⟩) :: .slice (some ⟨gA, oA, none⟩) n cA :: .slice (some ⟨gV, oV, none⟩) n cV :: .int .i64 (k : Int) :: u11 :: .int .i64 (f : Int) :: .int .i64 (t : Int) :: .int .i64 0 :: u15 :: u16 :: u17 :: u18 :: u19 :: u20 :: u21 :: u22 :: u23 :: u24 :: u25 :: u26 :: u27 :: u28 :: u29 :: u30 :: u31 :: u32 :: u33 :: u34 :: u35 :: u36 :: u37 :: u38 :: u39 :: u40 :: u41 :: u42 :: u43 :: u44 :: u45 :: u46 :: u47 :: u48 :: u49 :: u50 :: u51 :: u52 :: u53 :: u54 :: u55 :: u56 :: u57 :: u58 :: u59 :: u60 :: u61 :: u62 :: u63 :: u64 :: u65 :: u66 :: u67 :: u68 :: u69 :: u70 :: u71 :: .int .i64 0 :: u73 :: u74 :: u75 :: u76 :: u77 :: u78 :: u79 :: u80 :: u81 :: u82 :: u83 :: u84 :: u85 :: u86 :: u87 :: u88 :: u89 :: u90 :: u91 :: u92 :: u93 :: u94 :: u95 :: u96 :: u97 :: u98 :: u99 :: u100 :: u101 :: u102 :: u103 :: u104 :: u105 :: u106 :: u107 :: u108 :: u109 :: u110 :: u111 :: u112 :: u113 :: u114 :: u115 :: u116 :: u117 :: u118 :: u119 :: u120 :: u121 :: u122 :: u123 :: u124 :: u125 :: u126 :: u127 :: u128 :: u129 :: u130 :: u131 :: u132 :: u133 :: u134 :: u135 :: u136 :: u137 :: u138 :: u139 :: u140 :: u141 :: u142 :: u143 :: u144 :: u145 :: u146 :: u147 :: u148 :: u149 :: u150 :: u151 :: u152 :: u153 :: u154 :: u155 :: u156 :: u157 :: u158 :: u159 :: u160 :: u161 :: u162 :: u163 :: u164 :: u165 :: u166 :: u167 :: u168 :: u169 :: u170 :: u171 :: u172 :: u173 :: u174 :: u175 :: u176 :: u177 :: u178 :: u179 :: u180 :: u181 :: u182 :: u183 :: u184 :: u185 :: u186 :: u187 :: u188 :: u189 :: u190 :: u191 :: u192 :: u193 :: u194 :: u195 :: u196 :: u197 :: u198 :: u199 :: u200 :: u201 :: u202 :: u203 :: u204 :: u205 :: u206 :: u207 :: u208 :: u209 :: u210 :: u211 :: u212 :: u213 :: u214 :: u215 :: u216 :: u217 :: u218 :: u219 :: u220 :: u221 :: u222 :: u223 :: u224 :: u225 :: u226 :: []), defers := [] } wr := by
  have k1 : decide (k < nn) = true := by simpa using hkn
  have k2 : decide ((k : Int) < (nn : Int)) = true := by simp; omega
  have k3 : (k : Int) < (nn : Int) := by omega
  obtain ⟨f1, hf1⟩ : ∃ m, f = m + 1 := ⟨f - 1, by omega⟩
  have wf1 : IntKind.i64.wrap ((f : Int) - 1) = (f1 : Int) := by rw [show (f : Int) - 1 = (f1 : Int) by omega]; exact IntWalk.i64_in _ (by omega)
  obtain ⟨t1, ht1⟩ : ∃ m, t = m + 1 := ⟨t - 1, by omega⟩
  have wt1 : IntKind.i64.wrap ((t : Int) - 1) = (t1 : Int) := by rw [show (t : Int) - 1 = (t1 : Int) by omega]; exact IntWalk.i64_in _ (by omega)
  have HG1 := hide hf1
  have HG2 := hide ht1
  have ht9 : (t : Int) ≤ 200 := by omega
  have hf9 : (f : Int) ≤ 200 := by omega
  have hn9 : (n : Int) ≤ 190 := by omega
  have hcA : (cA : Int) ≤ 9223372036854775807 := by unfold maxLen at hA2; omega
  have hcV : (cV : Int) ≤ 9223372036854775807 := by unfold maxLen at hV2; omega
  have HM := hide hM
  have HL := hide hL
  have HC := hide hC
  have HNG := hide h0
  have HF1 := hide h1
  have HFT := hide h2
  have HTN := hide h3
  have hnB := hn
  have HHK := hide hK
  obtain ⟨d5, d6⟩ := hC _ hM.ob.bel
  skip
  clear hf1 ht1 hM hL hC h0 h1 h2 h3 hK hn
  subst hcode
  conv => arg 2; whnf
  have HDO := hide (obj_put HM.out.ob HL.out.good (by omega) f t nm a.k a.v)
  have HPL := hide (HL.out.put HNG.out (by rw [HM.out.hn]; omega) HF1.out HFT.out (by rw [HM.out.hn]; exact HTN.out) (a.k, a.v))
  rw [HPL.out.1] at HDO
  go_wp2_with (go_at_call 13; (with_reducible refine Calls.mono HDO.out ?_); rintro r w4 ⟨rfl, ho, hk4⟩; have HM4 := hide (HM.out.keep ho hk4); clear ho hk4)
  obtain ⟨P4, hP4⟩ : ∃ P4, P4 = putP P f t (nm, a.k, a.v) := ⟨_, rfl⟩
  rw [← hP4] at HM4 HPL
  have HPL2 := hide HPL.out.2
  clear HPL hP4 HDO
  go_loopw [15] (fun jv wq => ∃ (j : Nat) (Hj : List Bool) (Vj : List (Int × Int)), jv = .int .i64 (j : Int) ∧ f ≤ j ∧ j ≤ t ∧ LsM w wq b P4 Hj Vj (.slice (some ⟨gA, oA, none⟩) n cA) (.slice (some ⟨gV, oV, none⟩) n cV) n ∧ (∀ i, Hj[i]? = if f ≤ i + 1 ∧ i + 1 < j then some true else H[i]?) ∧ ∀ i, Vj[i]? = if f ≤ i + 1 ∧ i + 1 < j then some (a.k, a.v) else V[i]?) (fun jv _ => t - (intOf jv).toNat)
  case atStart => exact ⟨f, H, V, rfl, Nat.le_refl _, HFT.out, HM4.out, fun i => by rw [if_neg (by omega)], fun i => by rw [if_neg (by omega)]⟩
  case round =>
    clear HM4 HM HL
    obtain ⟨j, Hj, Vj, rfl, hj1, hj2, hM4, hHj, hVj⟩ := hrel
    have HM5 := hide hM4
    have HHJ := hide hHj
    have HVJ := hide hVj
    have HJ1 := hide hj1
    by_cases hjt : j < t
    · have z1 : decide (j < t) = true := by simpa using hjt
      have z2 : decide ((j : Int) < (t : Int)) = true := by simp; omega
      have z3 : (j : Int) < (t : Int) := by omega
      obtain ⟨m, hm⟩ : ∃ m, j = m + 1 := ⟨j - 1, by have := HF1.out; omega⟩
      have wj : IntKind.i64.wrap ((j : Int) - 1) = (m : Int) := by rw [show (j : Int) - 1 = (m : Int) by omega]; exact IntWalk.i64_in _ (by omega)
      have hmn : m < n := by have := HTN.out; omega
      have y1 : decide (m < n) = true := by simpa using hmn
      have y2 : decide ((m : Int) < (n : Int)) = true := by simp; omega
      have y3 : (m : Int) < (n : Int) := by omega
      obtain ⟨e5, e6⟩ := HC.out wr hM4.ob.bel
      obtain ⟨_, _, m0, m1⟩ := hM4.atH hmn
      have hM6 := hM4.setH hmn true
      obtain ⟨_, _, o0, o1, o2, o3⟩ := hM6.atV hmn
      have HM7 := hide (hM6.setV hmn (a.k, a.v))
      have HMN := hide hmn
      have HJM := hide hm
      have HJT := hide hjt
      clear hM4 hHj hVj hj1 hj2 hjt hm hmn hM6
      go_wp2
      go_roundw
      case rel => exact ⟨j + 1, _, _, by go_num, by have := HJ1.out; omega, HJT.out, HM7.out, fillH HHJ.out HJM.out HJ1.out (by rw [HM5.out.hn]; exact HMN.out), fillV HVJ.out HJM.out HJ1.out (by rw [HM5.out.vn]; exact HMN.out)⟩
      case measure => have := HJT.out; simp [intOf]; omega
    · have z1 : decide (j < t) = false := by simpa using hjt
      have z2 : decide ((j : Int) < (t : Int)) = false := by simp; omega
      have z3 : ¬ (j : Int) < (t : Int) := by omega
      have HJT := hide (show j = t by omega)
      clear hM4 hHj hVj hj1 hj2 hjt
      go_wp2_with fail
      refine HHK.out _ _ _ ⟨n, P4, Hj, Vj, HM5.out, ?_, by omega⟩ _ _ _ _ _ _ _ _ _ _ _ _ _ _ _ _ _ _ _ _ _ _ _ _ _ _ _ _ _ _ _ _ _ _ _ _ _ _ _ _ _ _ _ _ _ _ _ _ _ _ _ _ _ _ _ _ _ _ _ _ _ _ _ _ _ _ _ _ _ _ _ _ _ _ _ _ _ _ _ _ _ _ _ _ _ _ _ _ _ _ _ _ _ _ _ _ _ _ _ _ _ _ _ _ _ _ _ _ _ _ _ _ _ _ _ _ _
      have e1 := HHJ.out
      have e2 := HVJ.out
      rw [HJT.out] at e1 e2
      exact HPL2.out Hj Vj (by rw [HM5.out.hn, HM5.out.vn]) e1 e2
set_option maxRecDepth 100000 in
set_option maxHeartbeats 32000000 in
theorem sw_1 {w wr : World} {b g off nn c k n f t gA oA cA gV oV cV : Nat} {nm : Int} {a : Ac} {P : List Pc} {H : List Bool} {V : List (Int × Int)} {K' : Act → World → Prop}  {u0 u3 u4 u5 u6 u11 u15 u16 u17 u18 u19 u20 u21 u22 u23 u24 u25 u26 u27 u28 u29 u30 u31 u32 u33 u34 u35 u36 u37 u38 u39 u40 u41 u42 u43 u44 u45 u46 u47 u48 u49 u50 u51 u52 u53 u54 u55 u56 u57 u58 u59 u60 u61 u62 u63 u64 u65 u66 u67 u68 u69 u70 u71 u73 u74 u75 u76 u77 u78 u79 u80 u81 u82 u83 u84 u85 u86 u87 u88 u89 u90 u91 u92 u93 u94 u95 u96 u97 u98 u99 u100 u101 u102 u103 u104 u105 u106 u107 u108 u109 u110 u111 u112 u113 u114 u115 u116 u117 u118 u119 u120 u121 u122 u123 u124 u125 u126 u127 u128 u129 u130 u131 u132 u133 u134 u135 u136 u137 u138 u139 u140 u141 u142 u143 u144 u145 u146 u147 u148 u149 u150 u151 u152 u153 u154 u155 u156 u157 u158 u159 u160 u161 u162 u163 u164 u165 u166 u167 u168 u169 u170 u171 u172 u173 u174 u175 u176 u177 u178 u179 u180 u181 u182 u183 u184 u185 u186 u187 u188 u189 u190 u191 u192 u193 u194 u195 u196 u197 u198 u199 u200 u201 u202 u203 u204 u205 u206 u207 u208 u209 u210 u211 u212 u213 u214 u215 u216 u217 u218 u219 u220 u221 u222 u223 u224 u225 u226 : Value}
    (hkn : k < nn) (h0 : 0 ≤ nm) (hn : n ≤ 190) (h1 : 1 ≤ f) (h2 : f ≤ t) (h3 : t ≤ n + 1) (hM : LsM w wr b P H V (.slice (some ⟨gA, oA, none⟩) n cA) (.slice (some ⟨gV, oV, none⟩) n cV) n) (hL : Lst P nm H V)
    (hC : ∀ x : World, Below w.heap.size w x → x.cell? ⟨g, off + k * 8 + 5, none⟩ = some (.int .i64 a.k) ∧ x.cell? ⟨g, off + k * 8 + 5 + 1, none⟩ = some (.int .i64 a.v)) (_hA1 : n ≤ cA) (_hV1 : n ≤ cV) (hA2 : cA ≤ maxLen) (hV2 : cV ≤ maxLen) (_d4 : wr.cell? ⟨g, off + k * 8 + 4, none⟩ = some (.int .i64 a.n))
    (CODE : Code) (hcode : CODE = (subBlock 2 ((Try.f5).body.getD .skip)).getD .skip)
    (hK : ∀ (x8 x9 : Value) (w' : World), SwRel w b nm n x8 x9 w' → ∀ (x15 x16 x17 x73 x74 x75 x76 x77 x78 x79 x80 x81 x82 x83 x84 x85 x86 x87 x88 x89 x90 x91 x92 x93 x94 x95 x96 x97 x98 x99 x100 x101 x102 x103 x104 x105 x106 x107 x108 x109 x110 x111 x112 x113 x114 x115 x116 x117 x118 x119 x120 x121 x122 x123 x124 x125 x126 x127 x128 x129 x130 x131 x132 x133 x134 x135 x136 x137 x138 x139 x140 x141 x142 x143 x144 x145 x146 x147 x148 x149 x150 x151 x152 x153 x154 x155 x156 x157 x158 x159 x160 x161 x162 x163 x164 x165 x166 x167 x168 x169 x170 x171 x172 x173 x174 x175 x176 x177 x178 x179 x180 x181 x182 x183 x184 x185 x186 : Value), K' { tmps := List.toArray (u0 :: .int .i64 nm :: .slice (some ⟨g, off, none⟩) nn c :: u3 :: u4 :: u5 :: u6 :: .pointer (some ⟨b, 0, none⟩) :: x8 :: x9 :: .int .i64 (k : Int) :: u11 :: .int .i64 (f : Int) :: .int .i64 (t : Int) :: .int .i64 0 :: x15 :: x16 :: x17 :: u18 :: u19 :: u20 :: u21 :: u22 :: u23 :: u24 :: u25 :: u26 :: u27 :: u28 :: u29 :: u30 :: u31 :: u32 :: u33 :: u34 :: u35 :: u36 :: u37 :: u38 :: u39 :: u40 :: u41 :: u42 :: u43 :: u44 :: u45 :: u46 :: u47 :: u48 :: u49 :: u50 :: u51 :: u52 :: u53 :: u54 :: u55 :: u56 :: u57 :: u58 :: u59 :: u60 :: u61 :: u62 :: u63 :: u64 :: u65 :: u66 :: u67 :: u68 :: u69 :: u70 :: u71 :: .int .i64 1 :: x73 :: x74 :: x75 :: x76 :: x77 :: x78 :: x79 :: x80 :: x81 :: x82 :: x83 :: x84 :: x85 :: x86 :: x87 :: x88 :: x89 :: x90 :: x91 :: x92 :: x93 :: x94 :: x95 :: x96 :: x97 :: x98 :: x99 :: x100 :: x101 :: x102 :: x103 :: x104 :: x105 :: x106 :: x107 :: x108 :: x109 :: x110 :: x111 :: x112 :: x113 :: x114 :: x115 :: x116 :: x117 :: x118 :: x119 :: x120 :: x121 :: x122 :: x123 :: x124 :: x125 :: x126 :: x127 :: x128 :: x129 :: x130 :: x131 :: x132 :: x133 :: x134 :: x135 :: x136 :: x137 :: x138 :: x139 :: x140 :: x141 :: x142 :: x143 :: x144 :: x145 :: x146 :: x147 :: x148 :: x149 :: x150 :: x151 :: x152 :: x153 :: x154 :: x155 :: x156 :: x157 :: x158 :: x159 :: x160 :: x161 :: x162 :: x163 :: x164 :: x165 :: x166 :: x167 :: x168 :: x169 :: x170 :: x171 :: x172 :: x173 :: x174 :: x175 :: x176 :: x177 :: x178 :: x179 :: x180 :: x181 :: x182 :: x183 :: x184 :: x185 :: x186 :: u187 :: u188 :: u189 :: u190 :: u191 :: u192 :: u193 :: u194 :: u195 :: u196 :: u197 :: u198 :: u199 :: u200 :: u201 :: u202 :: u203 :: u204 :: u205 :: u206 :: u207 :: u208 :: u209 :: u210 :: u211 :: u212 :: u213 :: u214 :: u215 :: u216 :: u217 :: u218 :: u219 :: u220 :: u221 :: u222 :: u223 :: u224 :: u225 :: u226 :: []), defers := [] } w') :
    Code.wp Try.prog CODE (Exit.then K' noExit) { tmps := List.toArray (u0 :: .int .i64 nm :: .slice (some ⟨g, off, none⟩) nn c :: u3 :: u4 :: u5 :: u6 :: .pointer (some ⟨b, 0, none⟩) :: .slice (some ⟨gA, oA, none⟩) n cA :: .slice (some ⟨gV, oV, none⟩) n cV :: .int .i64 (k : Int) :: u11 :: .int .i64 (f : Int) :: .int .i64 (t : Int) :: .int .i64 0 :: u15 :: u16 :: u17 :: u18 :: u19 :: u20 :: u21 :: u22 :: u23 :: u24 :: u25 :: u26 :: u27 :: u28 :: u29 :: u30 :: u31 :: u32 :: u33 :: u34 :: u35 :: u36 :: u37 :: u38 :: u39 :: u40 :: u41 :: u42 :: u43 :: u44 :: u45 :: u46 :: u47 :: u48 :: u49 :: u50 :: u51 :: u52 :: u53 :: u54 :: u55 :: u56 :: u57 :: u58 :: u59 :: u60 :: u61 :: u62 :: u63 :: u64 :: u65 :: u66 :: u67 :: u68 :: u69 :: u70 :: u71 :: .int .i64 1 :: u73 :: u74 :: u75 :: u76 :: u77 :: u78 :: u79 :: u80 :: u81 :: u82 :: u83 :: u84 :: u85 :: u86 :: u87 :: u88 :: u89 :: u90 :: u91 :: u92 :: u93 :: u94 :: u95 :: u96 :: u97 :: u98 :: u99 :: u100 :: u101 :: u102 :: u103 :: u104 :: u105 :: u106 :: u107 :: u108 :: u109 :: u110 :: u111 :: u112 :: u113 :: u114 :: u115 :: u116 :: u117 :: u118 :: u119 :: u120 :: u121 :: u122 :: u123 :: u124 :: u125 :: u126 :: u127 :: u128 :: u129 :: u130 :: u131 :: u132 :: u133 :: u134 :: u135 :: u136 :: u137 :: u138 :: u139 :: u140 :: u141 :: u142 :: u143 :: u144 :: u145 :: u146 :: u147 :: u148 :: u149 :: u150 :: u151 :: u152 :: u153 :: u154 :: u155 :: u156 :: u157 :: u158 :: u159 :: u160 :: u161 :: u162 :: u163 :: u164 :: u165 :: u166 :: u167 :: u168 :: u169 :: u170 :: u171 :: u172 :: u173 :: u174 :: u175 :: u176 :: u177 :: u178 :: u179 :: u180 :: u181 :: u182 :: u183 :: u184 :: u185 :: u186 :: u187 :: u188 :: u189 :: u190 :: u191 :: u192 :: u193 :: u194 :: u195 :: u196 :: u197 :: u198 :: u199 :: u200 :: u201 :: u202 :: u203 :: u204 :: u205 :: u206 :: u207 :: u208 :: u209 :: u210 :: u211 :: u212 :: u213 :: u214 :: u215 :: u216 :: u217 :: u218 :: u219 :: u220 :: u221 :: u222 :: u223 :: u224 :: u225 :: u226 :: []), defers := [] } wr := by
  have k1 : decide (k < nn) = true := by simpa using hkn
  have k2 : decide ((k : Int) < (nn : Int)) = true := by simp; omega
  have k3 : (k : Int) < (nn : Int) := by omega
  obtain ⟨f1, hf1⟩ : ∃ m, f = m + 1 := ⟨f - 1, by omega⟩
  have wf1 : IntKind.i64.wrap ((f : Int) - 1) = (f1 : Int) := by rw [show (f : Int) - 1 = (f1 : Int) by omega]; exact IntWalk.i64_in _ (by omega)
  obtain ⟨t1, ht1⟩ : ∃ m, t = m + 1 := ⟨t - 1, by omega⟩
  have wt1 : IntKind.i64.wrap ((t : Int) - 1) = (t1 : Int) := by rw [show (t : Int) - 1 = (t1 : Int) by omega]; exact IntWalk.i64_in _ (by omega)
  have HG1 := hide hf1
  have HG2 := hide ht1
  have ht9 : (t : Int) ≤ 200 := by omega
  have hf9 : (f : Int) ≤ 200 := by omega
  have hn9 : (n : Int) ≤ 190 := by omega
  have hcA : (cA : Int) ≤ 9223372036854775807 := by unfold maxLen at hA2; omega
  have hcV : (cV : Int) ≤ 9223372036854775807 := by unfold maxLen at hV2; omega
  have HM := hide hM
  have HL := hide hL
  have HC := hide hC
  have HNG := hide h0
  have HF1 := hide h1
  have HFT := hide h2
  have HTN := hide h3
  have hnB := hn
  have HHK := hide hK
  obtain ⟨d5, d6⟩ := hC _ hM.ob.bel
  skip
  clear hf1 ht1 hM hL hC h0 h1 h2 h3 hK hn
  subst hcode
  conv => arg 2; whnf
  have HDO := hide (obj_put HM.out.ob HL.out.good (by omega) f t nm a.k a.v)
  have HPL := hide (HL.out.put HNG.out (by rw [HM.out.hn]; omega) HF1.out HFT.out (by rw [HM.out.hn]; exact HTN.out) (a.k, a.v))
  rw [HPL.out.1] at HDO
  go_wp2_with (go_at_call 13; (with_reducible refine Calls.mono HDO.out ?_); rintro r w4 ⟨rfl, ho, hk4⟩; have HM4 := hide (HM.out.keep ho hk4); clear ho hk4)
  obtain ⟨P4, hP4⟩ : ∃ P4, P4 = putP P f t (nm, a.k, a.v) := ⟨_, rfl⟩
  rw [← hP4] at HM4 HPL
  have HPL2 := hide HPL.out.2
  clear HPL hP4 HDO
  go_loopw [15] (fun jv wq => ∃ (j : Nat) (Hj : List Bool) (Vj : List (Int × Int)), jv = .int .i64 (j : Int) ∧ f ≤ j ∧ j ≤ t ∧ LsM w wq b P4 Hj Vj (.slice (some ⟨gA, oA, none⟩) n cA) (.slice (some ⟨gV, oV, none⟩) n cV) n ∧ (∀ i, Hj[i]? = if f ≤ i + 1 ∧ i + 1 < j then some true else H[i]?) ∧ ∀ i, Vj[i]? = if f ≤ i + 1 ∧ i + 1 < j then some (a.k, a.v) else V[i]?) (fun jv _ => t - (intOf jv).toNat)
  case atStart => exact ⟨f, H, V, rfl, Nat.le_refl _, HFT.out, HM4.out, fun i => by rw [if_neg (by omega)], fun i => by rw [if_neg (by omega)]⟩
  case round =>
    clear HM4 HM HL
    obtain ⟨j, Hj, Vj, rfl, hj1, hj2, hM4, hHj, hVj⟩ := hrel
    have HM5 := hide hM4
    have HHJ := hide hHj
    have HVJ := hide hVj
    have HJ1 := hide hj1
    by_cases hjt : j < t
    · have z1 : decide (j < t) = true := by simpa using hjt
      have z2 : decide ((j : Int) < (t : Int)) = true := by simp; omega
      have z3 : (j : Int) < (t : Int) := by omega
      obtain ⟨m, hm⟩ : ∃ m, j = m + 1 := ⟨j - 1, by have := HF1.out; omega⟩
      have wj : IntKind.i64.wrap ((j : Int) - 1) = (m : Int) := by rw [show (j : Int) - 1 = (m : Int) by omega]; exact IntWalk.i64_in _ (by omega)
      have hmn : m < n := by have := HTN.out; omega
      have y1 : decide (m < n) = true := by simpa using hmn
      have y2 : decide ((m : Int) < (n : Int)) = true := by simp; omega
      have y3 : (m : Int) < (n : Int) := by omega
      obtain ⟨e5, e6⟩ := HC.out wr hM4.ob.bel
      obtain ⟨_, _, m0, m1⟩ := hM4.atH hmn
      have hM6 := hM4.setH hmn true
      obtain ⟨_, _, o0, o1, o2, o3⟩ := hM6.atV hmn
      have HM7 := hide (hM6.setV hmn (a.k, a.v))
      have HMN := hide hmn
      have HJM := hide hm
      have HJT := hide hjt
      clear hM4 hHj hVj hj1 hj2 hjt hm hmn hM6
      go_wp2
      go_roundw
      case rel => exact ⟨j + 1, _, _, by go_num, by have := HJ1.out; omega, HJT.out, HM7.out, fillH HHJ.out HJM.out HJ1.out (by rw [HM5.out.hn]; exact HMN.out), fillV HVJ.out HJM.out HJ1.out (by rw [HM5.out.vn]; exact HMN.out)⟩
      case measure => have := HJT.out; simp [intOf]; omega
    · have z1 : decide (j < t) = false := by simpa using hjt
      have z2 : decide ((j : Int) < (t : Int)) = false := by simp; omega
      have z3 : ¬ (j : Int) < (t : Int) := by omega
      have HJT := hide (show j = t by omega)
      clear hM4 hHj hVj hj1 hj2 hjt
      go_wp2_with fail
      refine HHK.out _ _ _ ⟨n, P4, Hj, Vj, HM5.out, ?_, by omega⟩ _ _ _ _ _ _ _ _ _ _ _ _ _ _ _ _ _ _ _ _ _ _ _ _ _ _ _ _ _ _ _ _ _ _ _ _ _ _ _ _ _ _ _ _ _ _ _ _ _ _ _ _ _ _ _ _ _ _ _ _ _ _ _ _ _ _ _ _ _ _ _ _ _ _ _ _ _ _ _ _ _ _ _ _ _ _ _ _ _ _ _ _ _ _ _ _ _ _ _ _ _ _ _ _ _ _ _ _ _ _ _ _ _ _ _ _ _
      have e1 := HHJ.out
      have e2 := HVJ.out
      rw [HJT.out] at e1 e2
      exact HPL2.out Hj Vj (by rw [HM5.out.hn, HM5.out.vn]) e1 e2
set_option maxRecDepth 100000 in
set_option maxHeartbeats 32000000 in
theorem sw_2 {w wr : World} {b g off nn c k n f t gA oA cA gV oV cV : Nat} {nm : Int} {a : Ac} {P : List Pc} {H : List Bool} {V : List (Int × Int)} {K' : Act → World → Prop}  {u0 u3 u4 u5 u6 u11 u15 u16 u17 u18 u19 u20 u21 u22 u23 u24 u25 u26 u27 u28 u29 u30 u31 u32 u33 u34 u35 u36 u37 u38 u39 u40 u41 u42 u43 u44 u45 u46 u47 u48 u49 u50 u51 u52 u53 u54 u55 u56 u57 u58 u59 u60 u61 u62 u63 u64 u65 u66 u67 u68 u69 u70 u71 u73 u74 u75 u76 u77 u78 u79 u80 u81 u82 u83 u84 u85 u86 u87 u88 u89 u90 u91 u92 u93 u94 u95 u96 u97 u98 u99 u100 u101 u102 u103 u104 u105 u106 u107 u108 u109 u110 u111 u112 u113 u114 u115 u116 u117 u118 u119 u120 u121 u122 u123 u124 u125 u126 u127 u128 u129 u130 u131 u132 u133 u134 u135 u136 u137 u138 u139 u140 u141 u142 u143 u144 u145 u146 u147 u148 u149 u150 u151 u152 u153 u154 u155 u156 u157 u158 u159 u160 u161 u162 u163 u164 u165 u166 u167 u168 u169 u170 u171 u172 u173 u174 u175 u176 u177 u178 u179 u180 u181 u182 u183 u184 u185 u186 u187 u188 u189 u190 u191 u192 u193 u194 u195 u196 u197 u198 u199 u200 u201 u202 u203 u204 u205 u206 u207 u208 u209 u210 u211 u212 u213 u214 u215 u216 u217 u218 u219 u220 u221 u222 u223 u224 u225 u226 : Value}
    (hkn : k < nn) (h0 : 0 ≤ nm) (hn : n ≤ 190) (h1 : 1 ≤ f) (h2 : f ≤ t) (h3 : t ≤ n + 1) (hM : LsM w wr b P H V (.slice (some ⟨gA, oA, none⟩) n cA) (.slice (some ⟨gV, oV, none⟩) n cV) n) (hL : Lst P nm H V)
    (hC : ∀ x : World, Below w.heap.size w x → x.cell? ⟨g, off + k * 8 + 5, none⟩ = some (.int .i64 a.k) ∧ x.cell? ⟨g, off + k * 8 + 5 + 1, none⟩ = some (.int .i64 a.v)) (_hA1 : n ≤ cA) (_hV1 : n ≤ cV) (hA2 : cA ≤ maxLen) (hV2 : cV ≤ maxLen) (_d4 : wr.cell? ⟨g, off + k * 8 + 4, none⟩ = some (.int .i64 a.n))
    (CODE : Code) (hcode : CODE = (subBlock 2 ((Try.f5).body.getD .skip)).getD .skip)
    (hK : ∀ (x8 x9 : Value) (w' : World), SwRel w b nm n x8 x9 w' → ∀ (x15 x16 x17 x73 x74 x75 x76 x77 x78 x79 x80 x81 x82 x83 x84 x85 x86 x87 x88 x89 x90 x91 x92 x93 x94 x95 x96 x97 x98 x99 x100 x101 x102 x103 x104 x105 x106 x107 x108 x109 x110 x111 x112 x113 x114 x115 x116 x117 x118 x119 x120 x121 x122 x123 x124 x125 x126 x127 x128 x129 x130 x131 x132 x133 x134 x135 x136 x137 x138 x139 x140 x141 x142 x143 x144 x145 x146 x147 x148 x149 x150 x151 x152 x153 x154 x155 x156 x157 x158 x159 x160 x161 x162 x163 x164 x165 x166 x167 x168 x169 x170 x171 x172 x173 x174 x175 x176 x177 x178 x179 x180 x181 x182 x183 x184 x185 x186 : Value), K' { tmps := List.toArray (u0 :: .int .i64 nm :: .slice (some ⟨g, off, none⟩) nn c :: u3 :: u4 :: u5 :: u6 :: .pointer (some ⟨b, 0, none⟩) :: x8 :: x9 :: .int .i64 (k : Int) :: u11 :: .int .i64 (f : Int) :: .int .i64 (t : Int) :: .int .i64 0 :: x15 :: x16 :: x17 :: u18 :: u19 :: u20 :: u21 :: u22 :: u23 :: u24 :: u25 :: u26 :: u27 :: u28 :: u29 :: u30 :: u31 :: u32 :: u33 :: u34 :: u35 :: u36 :: u37 :: u38 :: u39 :: u40 :: u41 :: u42 :: u43 :: u44 :: u45 :: u46 :: u47 :: u48 :: u49 :: u50 :: u51 :: u52 :: u53 :: u54 :: u55 :: u56 :: u57 :: u58 :: u59 :: u60 :: u61 :: u62 :: u63 :: u64 :: u65 :: u66 :: u67 :: u68 :: u69 :: u70 :: u71 :: .int .i64 2 :: x73 :: x74 :: x75 :: x76 :: x77 :: x78 :: x79 :: x80 :: x81 :: x82 :: x83 :: x84 :: x85 :: x86 :: x87 :: x88 :: x89 :: x90 :: x91 :: x92 :: x93 :: x94 :: x95 :: x96 :: x97 :: x98 :: x99 :: x100 :: x101 :: x102 :: x103 :: x104 :: x105 :: x106 :: x107 :: x108 :: x109 :: x110 :: x111 :: x112 :: x113 :: x114 :: x115 :: x116 :: x117 :: x118 :: x119 :: x120 :: x121 :: x122 :: x123 :: x124 :: x125 :: x126 :: x127 :: x128 :: x129 :: x130 :: x131 :: x132 :: x133 :: x134 :: x135 :: x136 :: x137 :: x138 :: x139 :: x140 :: x141 :: x142 :: x143 :: x144 :: x145 :: x146 :: x147 :: x148 :: x149 :: x150 :: x151 :: x152 :: x153 :: x154 :: x155 :: x156 :: x157 :: x158 :: x159 :: x160 :: x161 :: x162 :: x163 :: x164 :: x165 :: x166 :: x167 :: x168 :: x169 :: x170 :: x171 :: x172 :: x173 :: x174 :: x175 :: x176 :: x177 :: x178 :: x179 :: x180 :: x181 :: x182 :: x183 :: x184 :: x185 :: x186 :: u187 :: u188 :: u189 :: u190 :: u191 :: u192 :: u193 :: u194 :: u195 :: u196 :: u197 :: u198 :: u199 :: u200 :: u201 :: u202 :: u203 :: u204 :: u205 :: u206 :: u207 :: u208 :: u209 :: u210 :: u211 :: u212 :: u213 :: u214 :: u215 :: u216 :: u217 :: u218 :: u219 :: u220 :: u221 :: u222 :: u223 :: u224 :: u225 :: u226 :: []), defers := [] } w') :
    Code.wp Try.prog CODE (Exit.then K' noExit) { tmps := List.toArray (u0 :: .int .i64 nm :: .slice (some ⟨g, off, none⟩) nn c :: u3 :: u4 :: u5 :: u6 :: .pointer (some ⟨b, 0, none⟩) :: .slice (some ⟨gA, oA, none⟩) n cA :: .slice (some ⟨gV, oV, none⟩) n cV :: .int .i64 (k : Int) :: u11 :: .int .i64 (f : Int) :: .int .i64 (t : Int) :: .int .i64 0 :: u15 :: u16 :: u17 :: u18 :: u19 :: u20 :: u21 :: u22 :: u23 :: u24 :: u25 :: u26 :: u27 :: u28 :: u29 :: u30 :: u31 :: u32 :: u33 :: u34 :: u35 :: u36 :: u37 :: u38 :: u39 :: u40 :: u41 :: u42 :: u43 :: u44 :: u45 :: u46 :: u47 :: u48 :: u49 :: u50 :: u51 :: u52 :: u53 :: u54 :: u55 :: u56 :: u57 :: u58 :: u59 :: u60 :: u61 :: u62 :: u63 :: u64 :: u65 :: u66 :: u67 :: u68 :: u69 :: u70 :: u71 :: .int .i64 2 :: u73 :: u74 :: u75 :: u76 :: u77 :: u78 :: u79 :: u80 :: u81 :: u82 :: u83 :: u84 :: u85 :: u86 :: u87 :: u88 :: u89 :: u90 :: u91 :: u92 :: u93 :: u94 :: u95 :: u96 :: u97 :: u98 :: u99 :: u100 :: u101 :: u102 :: u103 :: u104 :: u105 :: u106 :: u107 :: u108 :: u109 :: u110 :: u111 :: u112 :: u113 :: u114 :: u115 :: u116 :: u117 :: u118 :: u119 :: u120 :: u121 :: u122 :: u123 :: u124 :: u125 :: u126 :: u127 :: u128 :: u129 :: u130 :: u131 :: u132 :: u133 :: u134 :: u135 :: u136 :: u137 :: u138 :: u139 :: u140 :: u141 :: u142 :: u143 :: u144 :: u145 :: u146 :: u147 :: u148 :: u149 :: u150 :: u151 :: u152 :: u153 :: u154 :: u155 :: u156 :: u157 :: u158 :: u159 :: u160 :: u161 :: u162 :: u163 :: u164 :: u165 :: u166 :: u167 :: u168 :: u169 :: u170 :: u171 :: u172 :: u173 :: u174 :: u175 :: u176 :: u177 :: u178 :: u179 :: u180 :: u181 :: u182 :: u183 :: u184 :: u185 :: u186 :: u187 :: u188 :: u189 :: u190 :: u191 :: u192 :: u193 :: u194 :: u195 :: u196 :: u197 :: u198 :: u199 :: u200 :: u201 :: u202 :: u203 :: u204 :: u205 :: u206 :: u207 :: u208 :: u209 :: u210 :: u211 :: u212 :: u213 :: u214 :: u215 :: u216 :: u217 :: u218 :: u219 :: u220 :: u221 :: u222 :: u223 :: u224 :: u225 :: u226 :: []), defers := [] } wr := by
  have k1 : decide (k < nn) = true := by simpa using hkn
  have k2 : decide ((k : Int) < (nn : Int)) = true := by simp; omega
  have k3 : (k : Int) < (nn : Int) := by omega
  obtain ⟨f1, hf1⟩ : ∃ m, f = m + 1 := ⟨f - 1, by omega⟩
  have wf1 : IntKind.i64.wrap ((f : Int) - 1) = (f1 : Int) := by rw [show (f : Int) - 1 = (f1 : Int) by omega]; exact IntWalk.i64_in _ (by omega)
  obtain ⟨t1, ht1⟩ : ∃ m, t = m + 1 := ⟨t - 1, by omega⟩
  have wt1 : IntKind.i64.wrap ((t : Int) - 1) = (t1 : Int) := by rw [show (t : Int) - 1 = (t1 : Int) by omega]; exact IntWalk.i64_in _ (by omega)
  have HG1 := hide hf1
  have HG2 := hide ht1
  have ht9 : (t : Int) ≤ 200 := by omega
  have hf9 : (f : Int) ≤ 200 := by omega
  have hn9 : (n : Int) ≤ 190 := by omega
  have hcA : (cA : Int) ≤ 9223372036854775807 := by unfold maxLen at hA2; omega
  have hcV : (cV : Int) ≤ 9223372036854775807 := by unfold maxLen at hV2; omega
  have HM := hide hM
  have HL := hide hL
  have HC := hide hC
  have HNG := hide h0
  have HF1 := hide h1
  have HFT := hide h2
  have HTN := hide h3
  have hnB := hn
  have HHK := hide hK
  obtain ⟨d5, d6⟩ := hC _ hM.ob.bel
  skip
  clear hf1 ht1 hM hL hC h0 h1 h2 h3 hK hn
  subst hcode
  conv => arg 2; whnf
  have HDO := hide (obj_take HM.out.ob HL.out.good (by omega) f t nm)
  have HPL := hide (HL.out.take_ HNG.out (by rw [HM.out.hn]; omega) HF1.out HFT.out (by rw [HM.out.hn]; exact HTN.out))
  rw [HPL.out.1] at HDO
  go_wp2_with (go_at_call 23; (with_reducible refine Calls.mono HDO.out ?_); rintro r w4 ⟨rfl, ho, hk4⟩; have HM4 := hide (HM.out.keep ho hk4); clear ho hk4)
  obtain ⟨P4, hP4⟩ : ∃ P4, P4 = takeP P f t nm := ⟨_, rfl⟩
  rw [← hP4] at HM4 HPL
  have HPL2 := hide HPL.out.2
  clear HPL hP4 HDO
  go_loopw [16] (fun jv wq => ∃ (j : Nat) (Hj : List Bool) (Vj : List (Int × Int)), jv = .int .i64 (j : Int) ∧ f ≤ j ∧ j ≤ t ∧ LsM w wq b P4 Hj Vj (.slice (some ⟨gA, oA, none⟩) n cA) (.slice (some ⟨gV, oV, none⟩) n cV) n ∧ (∀ i, Hj[i]? = if f ≤ i + 1 ∧ i + 1 < j then some false else H[i]?) ∧ ∀ i, Vj[i]? = if f ≤ i + 1 ∧ i + 1 < j then some (0, 0) else V[i]?) (fun jv _ => t - (intOf jv).toNat)
  case atStart => exact ⟨f, H, V, rfl, Nat.le_refl _, HFT.out, HM4.out, fun i => by rw [if_neg (by omega)], fun i => by rw [if_neg (by omega)]⟩
  case round =>
    clear HM4 HM HL
    obtain ⟨j, Hj, Vj, rfl, hj1, hj2, hM4, hHj, hVj⟩ := hrel
    have HM5 := hide hM4
    have HHJ := hide hHj
    have HVJ := hide hVj
    have HJ1 := hide hj1
    by_cases hjt : j < t
    · have z1 : decide (j < t) = true := by simpa using hjt
      have z2 : decide ((j : Int) < (t : Int)) = true := by simp; omega
      have z3 : (j : Int) < (t : Int) := by omega
      obtain ⟨m, hm⟩ : ∃ m, j = m + 1 := ⟨j - 1, by have := HF1.out; omega⟩
      have wj : IntKind.i64.wrap ((j : Int) - 1) = (m : Int) := by rw [show (j : Int) - 1 = (m : Int) by omega]; exact IntWalk.i64_in _ (by omega)
      have hmn : m < n := by have := HTN.out; omega
      have y1 : decide (m < n) = true := by simpa using hmn
      have y2 : decide ((m : Int) < (n : Int)) = true := by simp; omega
      have y3 : (m : Int) < (n : Int) := by omega
      obtain ⟨e5, e6⟩ := HC.out wr hM4.ob.bel
      obtain ⟨_, _, m0, m1⟩ := hM4.atH hmn
      have hM6 := hM4.setH hmn false
      obtain ⟨_, _, o0, o1, o2, o3⟩ := hM6.atV hmn
      have HM7 := hide (hM6.setV hmn (0, 0))
      have HMN := hide hmn
      have HJM := hide hm
      have HJT := hide hjt
      clear hM4 hHj hVj hj1 hj2 hjt hm hmn hM6
      go_wp2
      go_roundw
      case rel => exact ⟨j + 1, _, _, by go_num, by have := HJ1.out; omega, HJT.out, HM7.out, fillH HHJ.out HJM.out HJ1.out (by rw [HM5.out.hn]; exact HMN.out), fillV HVJ.out HJM.out HJ1.out (by rw [HM5.out.vn]; exact HMN.out)⟩
      case measure => have := HJT.out; simp [intOf]; omega
    · have z1 : decide (j < t) = false := by simpa using hjt
      have z2 : decide ((j : Int) < (t : Int)) = false := by simp; omega
      have z3 : ¬ (j : Int) < (t : Int) := by omega
      have HJT := hide (show j = t by omega)
      clear hM4 hHj hVj hj1 hj2 hjt
      go_wp2_with fail
      refine HHK.out _ _ _ ⟨n, P4, Hj, Vj, HM5.out, ?_, by omega⟩ _ _ _ _ _ _ _ _ _ _ _ _ _ _ _ _ _ _ _ _ _ _ _ _ _ _ _ _ _ _ _ _ _ _ _ _ _ _ _ _ _ _ _ _ _ _ _ _ _ _ _ _ _ _ _ _ _ _ _ _ _ _ _ _ _ _ _ _ _ _ _ _ _ _ _ _ _ _ _ _ _ _ _ _ _ _ _ _ _ _ _ _ _ _ _ _ _ _ _ _ _ _ _ _ _ _ _ _ _ _ _ _ _ _ _ _ _
      have e1 := HHJ.out
      have e2 := HVJ.out
      rw [HJT.out] at e1 e2
      exact HPL2.out Hj Vj (0, 0) (by rw [HM5.out.hn, HM5.out.vn]) e1 e2
set_option maxRecDepth 100000 in
set_option maxHeartbeats 32000000 in
theorem sw_3 {w wr : World} {b g off nn c k n f t gA oA cA gV oV cV : Nat} {nm : Int} {a : Ac} {P : List Pc} {H : List Bool} {V : List (Int × Int)} {K' : Act → World → Prop}  {u0 u3 u4 u5 u6 u11 u15 u16 u17 u18 u19 u20 u21 u22 u23 u24 u25 u26 u27 u28 u29 u30 u31 u32 u33 u34 u35 u36 u37 u38 u39 u40 u41 u42 u43 u44 u45 u46 u47 u48 u49 u50 u51 u52 u53 u54 u55 u56 u57 u58 u59 u60 u61 u62 u63 u64 u65 u66 u67 u68 u69 u70 u71 u73 u74 u75 u76 u77 u78 u79 u80 u81 u82 u83 u84 u85 u86 u87 u88 u89 u90 u91 u92 u93 u94 u95 u96 u97 u98 u99 u100 u101 u102 u103 u104 u105 u106 u107 u108 u109 u110 u111 u112 u113 u114 u115 u116 u117 u118 u119 u120 u121 u122 u123 u124 u125 u126 u127 u128 u129 u130 u131 u132 u133 u134 u135 u136 u137 u138 u139 u140 u141 u142 u143 u144 u145 u146 u147 u148 u149 u150 u151 u152 u153 u154 u155 u156 u157 u158 u159 u160 u161 u162 u163 u164 u165 u166 u167 u168 u169 u170 u171 u172 u173 u174 u175 u176 u177 u178 u179 u180 u181 u182 u183 u184 u185 u186 u187 u188 u189 u190 u191 u192 u193 u194 u195 u196 u197 u198 u199 u200 u201 u202 u203 u204 u205 u206 u207 u208 u209 u210 u211 u212 u213 u214 u215 u216 u217 u218 u219 u220 u221 u222 u223 u224 u225 u226 : Value}
    (hkn : k < nn) (h0 : 0 ≤ nm) (hn : n ≤ 190) (h1 : 1 ≤ f) (h2 : f ≤ t) (h3 : t ≤ n + 1) (hM : LsM w wr b P H V (.slice (some ⟨gA, oA, none⟩) n cA) (.slice (some ⟨gV, oV, none⟩) n cV) n) (hL : Lst P nm H V)
    (hC : ∀ x : World, Below w.heap.size w x → x.cell? ⟨g, off + k * 8 + 5, none⟩ = some (.int .i64 a.k) ∧ x.cell? ⟨g, off + k * 8 + 5 + 1, none⟩ = some (.int .i64 a.v)) (hA1 : n ≤ cA) (hV1 : n ≤ cV) (hA2 : cA ≤ maxLen) (hV2 : cV ≤ maxLen) (d4 : wr.cell? ⟨g, off + k * 8 + 4, none⟩ = some (.int .i64 a.n))
    (CODE : Code) (hcode : CODE = (subBlock 2 ((Try.f5).body.getD .skip)).getD .skip)
    (hK : ∀ (x8 x9 : Value) (w' : World), SwRel w b nm n x8 x9 w' → ∀ (x15 x16 x17 x73 x74 x75 x76 x77 x78 x79 x80 x81 x82 x83 x84 x85 x86 x87 x88 x89 x90 x91 x92 x93 x94 x95 x96 x97 x98 x99 x100 x101 x102 x103 x104 x105 x106 x107 x108 x109 x110 x111 x112 x113 x114 x115 x116 x117 x118 x119 x120 x121 x122 x123 x124 x125 x126 x127 x128 x129 x130 x131 x132 x133 x134 x135 x136 x137 x138 x139 x140 x141 x142 x143 x144 x145 x146 x147 x148 x149 x150 x151 x152 x153 x154 x155 x156 x157 x158 x159 x160 x161 x162 x163 x164 x165 x166 x167 x168 x169 x170 x171 x172 x173 x174 x175 x176 x177 x178 x179 x180 x181 x182 x183 x184 x185 x186 : Value), K' { tmps := List.toArray (u0 :: .int .i64 nm :: .slice (some ⟨g, off, none⟩) nn c :: u3 :: u4 :: u5 :: u6 :: .pointer (some ⟨b, 0, none⟩) :: x8 :: x9 :: .int .i64 (k : Int) :: u11 :: .int .i64 (f : Int) :: .int .i64 (t : Int) :: .int .i64 0 :: x15 :: x16 :: x17 :: u18 :: u19 :: u20 :: u21 :: u22 :: u23 :: u24 :: u25 :: u26 :: u27 :: u28 :: u29 :: u30 :: u31 :: u32 :: u33 :: u34 :: u35 :: u36 :: u37 :: u38 :: u39 :: u40 :: u41 :: u42 :: u43 :: u44 :: u45 :: u46 :: u47 :: u48 :: u49 :: u50 :: u51 :: u52 :: u53 :: u54 :: u55 :: u56 :: u57 :: u58 :: u59 :: u60 :: u61 :: u62 :: u63 :: u64 :: u65 :: u66 :: u67 :: u68 :: u69 :: u70 :: u71 :: .int .i64 3 :: x73 :: x74 :: x75 :: x76 :: x77 :: x78 :: x79 :: x80 :: x81 :: x82 :: x83 :: x84 :: x85 :: x86 :: x87 :: x88 :: x89 :: x90 :: x91 :: x92 :: x93 :: x94 :: x95 :: x96 :: x97 :: x98 :: x99 :: x100 :: x101 :: x102 :: x103 :: x104 :: x105 :: x106 :: x107 :: x108 :: x109 :: x110 :: x111 :: x112 :: x113 :: x114 :: x115 :: x116 :: x117 :: x118 :: x119 :: x120 :: x121 :: x122 :: x123 :: x124 :: x125 :: x126 :: x127 :: x128 :: x129 :: x130 :: x131 :: x132 :: x133 :: x134 :: x135 :: x136 :: x137 :: x138 :: x139 :: x140 :: x141 :: x142 :: x143 :: x144 :: x145 :: x146 :: x147 :: x148 :: x149 :: x150 :: x151 :: x152 :: x153 :: x154 :: x155 :: x156 :: x157 :: x158 :: x159 :: x160 :: x161 :: x162 :: x163 :: x164 :: x165 :: x166 :: x167 :: x168 :: x169 :: x170 :: x171 :: x172 :: x173 :: x174 :: x175 :: x176 :: x177 :: x178 :: x179 :: x180 :: x181 :: x182 :: x183 :: x184 :: x185 :: x186 :: u187 :: u188 :: u189 :: u190 :: u191 :: u192 :: u193 :: u194 :: u195 :: u196 :: u197 :: u198 :: u199 :: u200 :: u201 :: u202 :: u203 :: u204 :: u205 :: u206 :: u207 :: u208 :: u209 :: u210 :: u211 :: u212 :: u213 :: u214 :: u215 :: u216 :: u217 :: u218 :: u219 :: u220 :: u221 :: u222 :: u223 :: u224 :: u225 :: u226 :: []), defers := [] } w') :
    Code.wp Try.prog CODE (Exit.then K' noExit) { tmps := List.toArray (u0 :: .int .i64 nm :: .slice (some ⟨g, off, none⟩) nn c :: u3 :: u4 :: u5 :: u6 :: .pointer (some ⟨b, 0, none⟩) :: .slice (some ⟨gA, oA, none⟩) n cA :: .slice (some ⟨gV, oV, none⟩) n cV :: .int .i64 (k : Int) :: u11 :: .int .i64 (f : Int) :: .int .i64 (t : Int) :: .int .i64 0 :: u15 :: u16 :: u17 :: u18 :: u19 :: u20 :: u21 :: u22 :: u23 :: u24 :: u25 :: u26 :: u27 :: u28 :: u29 :: u30 :: u31 :: u32 :: u33 :: u34 :: u35 :: u36 :: u37 :: u38 :: u39 :: u40 :: u41 :: u42 :: u43 :: u44 :: u45 :: u46 :: u47 :: u48 :: u49 :: u50 :: u51 :: u52 :: u53 :: u54 :: u55 :: u56 :: u57 :: u58 :: u59 :: u60 :: u61 :: u62 :: u63 :: u64 :: u65 :: u66 :: u67 :: u68 :: u69 :: u70 :: u71 :: .int .i64 3 :: u73 :: u74 :: u75 :: u76 :: u77 :: u78 :: u79 :: u80 :: u81 :: u82 :: u83 :: u84 :: u85 :: u86 :: u87 :: u88 :: u89 :: u90 :: u91 :: u92 :: u93 :: u94 :: u95 :: u96 :: u97 :: u98 :: u99 :: u100 :: u101 :: u102 :: u103 :: u104 :: u105 :: u106 :: u107 :: u108 :: u109 :: u110 :: u111 :: u112 :: u113 :: u114 :: u115 :: u116 :: u117 :: u118 :: u119 :: u120 :: u121 :: u122 :: u123 :: u124 :: u125 :: u126 :: u127 :: u128 :: u129 :: u130 :: u131 :: u132 :: u133 :: u134 :: u135 :: u136 :: u137 :: u138 :: u139 :: u140 :: u141 :: u142 :: u143 :: u144 :: u145 :: u146 :: u147 :: u148 :: u149 :: u150 :: u151 :: u152 :: u153 :: u154 :: u155 :: u156 :: u157 :: u158 :: u159 :: u160 :: u161 :: u162 :: u163 :: u164 :: u165 :: u166 :: u167 :: u168 :: u169 :: u170 :: u171 :: u172 :: u173 :: u174 :: u175 :: u176 :: u177 :: u178 :: u179 :: u180 :: u181 :: u182 :: u183 :: u184 :: u185 :: u186 :: u187 :: u188 :: u189 :: u190 :: u191 :: u192 :: u193 :: u194 :: u195 :: u196 :: u197 :: u198 :: u199 :: u200 :: u201 :: u202 :: u203 :: u204 :: u205 :: u206 :: u207 :: u208 :: u209 :: u210 :: u211 :: u212 :: u213 :: u214 :: u215 :: u216 :: u217 :: u218 :: u219 :: u220 :: u221 :: u222 :: u223 :: u224 :: u225 :: u226 :: []), defers := [] } wr := by
  have k1 : decide (k < nn) = true := by simpa using hkn
  have k2 : decide ((k : Int) < (nn : Int)) = true := by simp; omega
  have k3 : (k : Int) < (nn : Int) := by omega
  obtain ⟨f1, hf1⟩ : ∃ m, f = m + 1 := ⟨f - 1, by omega⟩
  have wf1 : IntKind.i64.wrap ((f : Int) - 1) = (f1 : Int) := by rw [show (f : Int) - 1 = (f1 : Int) by omega]; exact IntWalk.i64_in _ (by omega)
  obtain ⟨t1, ht1⟩ : ∃ m, t = m + 1 := ⟨t - 1, by omega⟩
  have wt1 : IntKind.i64.wrap ((t : Int) - 1) = (t1 : Int) := by rw [show (t : Int) - 1 = (t1 : Int) by omega]; exact IntWalk.i64_in _ (by omega)
  have HG1 := hide hf1
  have HG2 := hide ht1
  have ht9 : (t : Int) ≤ 200 := by omega
  have hf9 : (f : Int) ≤ 200 := by omega
  have hn9 : (n : Int) ≤ 190 := by omega
  have hcA : (cA : Int) ≤ 9223372036854775807 := by unfold maxLen at hA2; omega
  have hcV : (cV : Int) ≤ 9223372036854775807 := by unfold maxLen at hV2; omega
  have HM := hide hM
  have HL := hide hL
  have HC := hide hC
  have HNG := hide h0
  have HF1 := hide h1
  have HFT := hide h2
  have HTN := hide h3
  have hnB := hn
  have HHK := hide hK
  obtain ⟨d5, d6⟩ := hC _ hM.ob.bel
  obtain ⟨i0, hi, hz0, hz1, hz2⟩ := info_parts info_bo
  obtain ⟨j0, hj, hy0, hy1, hy2⟩ := info_parts info_wo
  have HI := hide hi
  have HZ0 := hide hz0
  have HZ1 := hide hz1
  have HZ2 := hide hz2
  have HJ := hide hj
  have HY0 := hide hy0
  have HY1 := hide hy1
  have HY2 := hide hy2
  clear hi hz0 hz1 hz2 hj hy0 hy1 hy2
  clear hf1 ht1 hM hL hC h0 h1 h2 h3 hK hn
  subst hcode
  conv => arg 2; whnf
  obtain ⟨p3, hp3⟩ : ∃ p, p = pickZ a.n 4 := ⟨_, rfl⟩
  have r3 := pickZ_range a.n (k := 4) (by omega)
  rw [← hp3] at r3
  obtain ⟨z, hz⟩ : ∃ z : Nat, p3 = (z : Int) := ⟨p3.toNat, by omega⟩
  have hz3 : z ≤ 3 := by omega
  subst hz
  have HP3 := hide hp3
  clear hp3 r3
  have HDO := hide (obj_ins HM.out.ob HL.out.good (by omega) f (z : Int))
  have HPL := hide (HL.out.ins_ (by rw [HM.out.hn]; omega) HF1.out (by rw [HM.out.hn]; have := HFT.out; have := HTN.out; omega) hz3)
  rw [HPL.out.1] at HDO
  have hfn : f1 ≤ n := by have := HG1.out; have := HFT.out; have := HTN.out; omega
  have q1 : decide (f1 ≤ n) = true := by simpa using hfn
  have q2 : decide ((f1 : Int) ≤ (n : Int)) = true := by simp; omega
  have q3 : (f1 : Int) ≤ (n : Int) := by omega
  have q7 : (f1 : Int) ≤ (cA : Int) := by omega
  have q8 : (f1 : Int) ≤ (cV : Int) := by omega
  go_wp2_with fail
  refine (Calls.mono (pick_any a.n 4 _ (by omega) (by omega))) ?_
  rintro r w2' ⟨rfl, rfl⟩
  rw [← HP3.out]
  go_upto_region 35 with (go_at_call 19; (with_reducible refine Calls.mono HDO.out ?_); rintro r w4 ⟨rfl, ho, hk4⟩; have HM4 := hide (HM.out.keep ho hk4); clear ho hk4)
  obtain ⟨P4, hP4⟩ : ∃ P4, P4 = insQ P f z := ⟨_, rfl⟩
  rw [← hP4] at HM4 HPL
  clear hP4 HDO HM
  obtain ⟨wA, hwA⟩ : ∃ x : World, x = w4 := ⟨_, rfl⟩
  rw [← hwA] at HM4 ⊢
  clear hwA
  have HS0 := hide HM4.out.sh
  go_cut [8] from 163 to 174 (fun hv' wx => Obj w wx b P4 ∧ Sl wx 29 2 (.slice (some ⟨gV, oV, none⟩) n cV) n (rows woC V) ∧ (H.take f1 ++ List.replicate z false ++ H.drop f1).length = (f1 + z + (n - f1)) ∧ Sl wx 4 1 hv' (f1 + z + (n - f1)) (rows boC (H.take f1 ++ List.replicate z false ++ H.drop f1)) ∧ ∃ g, hv'.ownBlock = some g ∧ w.heap.size ≤ g)
  case first =>
    obtain ⟨Bv, hBv⟩ : ∃ Bv, (if cA = f1 then some (⟨gA, oA, none⟩ : Addr) else some (⟨gA, oA + f1, none⟩ : Addr)) = Bv := ⟨_, rfl⟩
    have HFR := hide (fun (x : World) (hb : Below wA.heap.size wA x) => boF (w := x) (HS0.out.only (Only.of_below (F := fun _ => False) hb) fun _ _ f => f) hfn)
    have HBK := hide (fun (x : World) (hb : Below wA.heap.size wA x) => boB (w := x) (HS0.out.only (Only.of_below (F := fun _ => False) hb) fun _ _ f => f) hA1 hfn)
    rw [hBv] at HBK
    have HOWN := hide (fun (x : World) (hb : Below wA.heap.size wA x) => own_bools (.slice (some ⟨gA, oA, none⟩) f1 cA) f1 (rows boC (H.take f1)) x (HFR.out x hb) (boC_one _) (by omega))
    go_region_law (first | (go_simp; go_at_call 24; (with_reducible refine Calls.mono (HOWN.out _ ((Below.refl _ wA).drew)) ?_); rintro r w5 ⟨v5, rfl, h5, g5, b5⟩; have HS5 := hide h5; have HG5 := hide (show ∃ g, v5.ownBlock = some g ∧ wA.heap.size ≤ g from g5); have HB5 := hide ((Below.refl wA.heap.size wA).drew.trans b5); clear h5 g5 b5) | (refine step_zeros_sl rfl (.tmp 167) (.tmp 168) 46 3 rfl 4 i0 _ 1 1 .i64 .i64 Try.underlying46 Try.underlying3 HI.out HZ0.out HZ1.out HZ2.out rfl (by omega) v5 f1 (rows boC (H.take f1)) rfl HS5.out z rfl (zone_boC z) (by unfold maxLen; omega) (by omega) ?_; intro v6 w6 hs6 ho6 hv6; have HS6 := hide hs6; have HB6 := hide (HB5.out.trans (ho6.below HB5.out.size (by obtain ⟨g, e, h⟩ := HG5.out; intro i hi; rw [e] at hi; cases hi; exact h))); have HG6 := hide (own_next HG5.out HB5.out hv6); clear hs6 ho6 hv6) | (refine step_append_sl rfl (.tmp 169) (.tmp 173) 46 rfl 4 i0 _ 1 1 Try.underlying46 HI.out HZ0.out HZ1.out HZ2.out rfl v6 (f1 + z) _ rfl HS6.out (.slice Bv (n - f1) (cA - f1)) rfl (n - f1) (rows boC (H.drop f1)) (HBK.out w6 HB6.out) (boC_one _) (by unfold maxLen; omega) (by omega) ?_; intro v7 w7 hs7 ho7 hv7; have HS7 := hide hs7; have HB7 := hide (HB6.out.trans (ho7.below HB6.out.size (by obtain ⟨g, e, h⟩ := HG6.out; intro i hi; rw [e] at hi; cases hi; exact h))); have HG7 := hide (own_next HG6.out HB6.out hv7); clear hs7 ho7 hv7))
    all_goals go_wp2_with fail
    all_goals go_meet
    all_goals exact HM4.out.newH HB7.out (by simp [HM4.out.hn]; omega) (by have := HS7.out; rw [zero_rows (enc := boC) (z := (.bool false)) (y := false) rfl (by simp [boC]), ← rows_append, ← rows_append] at this; exact this) HG7.out
  case rest =>
    obtain ⟨ho5, hs5, hl5, hb5, hg5⟩ := hcut
    have HO5 := hide ho5
    have HL5 := hide hl5
    have HBB := hide hb5
    have HGB := hide hg5
    clear HS0
    have HS0 := hide hs5
    clear ho5 hs5 hl5 hb5 hg5
    obtain ⟨wA, hwA⟩ : ∃ x : World, x = wc := ⟨_, rfl⟩
    rw [← hwA] at HO5 HBB HS0 ⊢
    clear hwA
    go_upto_region 36 with fail
    obtain ⟨Bv, hBv⟩ : ∃ Bv, (if cV = f1 then some (⟨gV, oV, none⟩ : Addr) else some (⟨gV, oV + f1 * 2, none⟩ : Addr)) = Bv := ⟨_, rfl⟩
    have HFR := hide (fun (x : World) (hb : Below wA.heap.size wA x) => woF (w := x) (HS0.out.only (Only.of_below (F := fun _ => False) hb) fun _ _ f => f) hfn)
    have HBK := hide (fun (x : World) (hb : Below wA.heap.size wA x) => woB (w := x) (HS0.out.only (Only.of_below (F := fun _ => False) hb) fun _ _ f => f) hV1 hfn)
    rw [hBv] at HBK
    have HOWN := hide (fun (x : World) (hb : Below wA.heap.size wA x) => own_words (.slice (some ⟨gV, oV, none⟩) f1 cV) f1 (rows woC (V.take f1)) x (HFR.out x hb) (woC_one _) (by omega))
    go_region_law (first | (go_simp; go_at_call 25; (with_reducible refine Calls.mono (HOWN.out _ ((Below.refl _ wA).drew)) ?_); rintro r w5 ⟨v5, rfl, h5, g5, b5⟩; have HS5 := hide h5; have HG5 := hide (show ∃ g, v5.ownBlock = some g ∧ wA.heap.size ≤ g from g5); have HB5 := hide ((Below.refl wA.heap.size wA).drew.trans b5); clear h5 g5 b5) | (refine step_zeros_sl rfl (.tmp 179) (.tmp 180) 47 3 rfl 29 j0 _ 2 16 .i64 .i64 Try.underlying47 Try.underlying3 HJ.out HY0.out HY1.out HY2.out rfl (by omega) v5 f1 (rows woC (V.take f1)) rfl HS5.out z rfl (zone_woC z) (by unfold maxLen; omega) (by omega) ?_; intro v6 w6 hs6 ho6 hv6; have HS6 := hide hs6; have HB6 := hide (HB5.out.trans (ho6.below HB5.out.size (by obtain ⟨g, e, h⟩ := HG5.out; intro i hi; rw [e] at hi; cases hi; exact h))); have HG6 := hide (own_next HG5.out HB5.out hv6); clear hs6 ho6 hv6) | (refine step_append_sl rfl (.tmp 181) (.tmp 185) 47 rfl 29 j0 _ 2 16 Try.underlying47 HJ.out HY0.out HY1.out HY2.out rfl v6 (f1 + z) _ rfl HS6.out (.slice Bv (n - f1) (cV - f1)) rfl (n - f1) (rows woC (V.drop f1)) (HBK.out w6 HB6.out) (woC_one _) (by unfold maxLen; omega) (by omega) ?_; intro v7 w7 hs7 ho7 hv7; have HS7 := hide hs7; have HB7 := hide (HB6.out.trans (ho7.below HB6.out.size (by obtain ⟨g, e, h⟩ := HG6.out; intro i hi; rw [e] at hi; cases hi; exact h))); have HG7 := hide (own_next HG6.out HB6.out hv7); clear hs7 ho7 hv7))
    all_goals go_wp2_with fail
    all_goals
      have HFIN := hide (lsm_fin HO5.out HL5.out HBB.out HGB.out HB7.out (V' := V.take f1 ++ List.replicate z (0, 0) ++ V.drop f1) (by simp [HM4.out.vn]; omega) (by have := HS7.out; rw [zero_rows (enc := woC) (z := (.agg #[.int .i64 0, .int .i64 0])) (y := ((0 : Int), (0 : Int))) rfl (by simp [woC]), ← rows_append, ← rows_append] at this; exact this) HG7.out)
      refine HHK.out _ _ _ ⟨f1 + z + (n - f1), P4, H.take f1 ++ List.replicate z false ++ H.drop f1, V.take f1 ++ List.replicate z (0, 0) ++ V.drop f1, HFIN.out, ?_, by omega⟩ _ _ _ _ _ _ _ _ _ _ _ _ _ _ _ _ _ _ _ _ _ _ _ _ _ _ _ _ _ _ _ _ _ _ _ _ _ _ _ _ _ _ _ _ _ _ _ _ _ _ _ _ _ _ _ _ _ _ _ _ _ _ _ _ _ _ _ _ _ _ _ _ _ _ _ _ _ _ _ _ _ _ _ _ _ _ _ _ _ _ _ _ _ _ _ _ _ _ _ _ _ _ _ _ _ _ _ _ _ _ _ _ _ _ _ _ _
      have e := HPL.out.2
      rw [HG1.out, Nat.add_sub_cancel] at e
      exact e
set_option maxRecDepth 100000 in
set_option maxHeartbeats 32000000 in
theorem sw_4 {w wr : World} {b g off nn c k n f t gA oA cA gV oV cV : Nat} {nm : Int} {a : Ac} {P : List Pc} {H : List Bool} {V : List (Int × Int)} {K' : Act → World → Prop}  {u0 u3 u4 u5 u6 u11 u15 u16 u17 u18 u19 u20 u21 u22 u23 u24 u25 u26 u27 u28 u29 u30 u31 u32 u33 u34 u35 u36 u37 u38 u39 u40 u41 u42 u43 u44 u45 u46 u47 u48 u49 u50 u51 u52 u53 u54 u55 u56 u57 u58 u59 u60 u61 u62 u63 u64 u65 u66 u67 u68 u69 u70 u71 u73 u74 u75 u76 u77 u78 u79 u80 u81 u82 u83 u84 u85 u86 u87 u88 u89 u90 u91 u92 u93 u94 u95 u96 u97 u98 u99 u100 u101 u102 u103 u104 u105 u106 u107 u108 u109 u110 u111 u112 u113 u114 u115 u116 u117 u118 u119 u120 u121 u122 u123 u124 u125 u126 u127 u128 u129 u130 u131 u132 u133 u134 u135 u136 u137 u138 u139 u140 u141 u142 u143 u144 u145 u146 u147 u148 u149 u150 u151 u152 u153 u154 u155 u156 u157 u158 u159 u160 u161 u162 u163 u164 u165 u166 u167 u168 u169 u170 u171 u172 u173 u174 u175 u176 u177 u178 u179 u180 u181 u182 u183 u184 u185 u186 u187 u188 u189 u190 u191 u192 u193 u194 u195 u196 u197 u198 u199 u200 u201 u202 u203 u204 u205 u206 u207 u208 u209 u210 u211 u212 u213 u214 u215 u216 u217 u218 u219 u220 u221 u222 u223 u224 u225 u226 : Value}
    (hkn : k < nn) (h0 : 0 ≤ nm) (hn : n ≤ 190) (h1 : 1 ≤ f) (h2 : f ≤ t) (h3 : t ≤ n + 1) (hM : LsM w wr b P H V (.slice (some ⟨gA, oA, none⟩) n cA) (.slice (some ⟨gV, oV, none⟩) n cV) n) (hL : Lst P nm H V)
    (hC : ∀ x : World, Below w.heap.size w x → x.cell? ⟨g, off + k * 8 + 5, none⟩ = some (.int .i64 a.k) ∧ x.cell? ⟨g, off + k * 8 + 5 + 1, none⟩ = some (.int .i64 a.v)) (hA1 : n ≤ cA) (hV1 : n ≤ cV) (hA2 : cA ≤ maxLen) (hV2 : cV ≤ maxLen) (_d4 : wr.cell? ⟨g, off + k * 8 + 4, none⟩ = some (.int .i64 a.n))
    (CODE : Code) (hcode : CODE = (subBlock 2 ((Try.f5).body.getD .skip)).getD .skip)
    (hK : ∀ (x8 x9 : Value) (w' : World), SwRel w b nm n x8 x9 w' → ∀ (x15 x16 x17 x73 x74 x75 x76 x77 x78 x79 x80 x81 x82 x83 x84 x85 x86 x87 x88 x89 x90 x91 x92 x93 x94 x95 x96 x97 x98 x99 x100 x101 x102 x103 x104 x105 x106 x107 x108 x109 x110 x111 x112 x113 x114 x115 x116 x117 x118 x119 x120 x121 x122 x123 x124 x125 x126 x127 x128 x129 x130 x131 x132 x133 x134 x135 x136 x137 x138 x139 x140 x141 x142 x143 x144 x145 x146 x147 x148 x149 x150 x151 x152 x153 x154 x155 x156 x157 x158 x159 x160 x161 x162 x163 x164 x165 x166 x167 x168 x169 x170 x171 x172 x173 x174 x175 x176 x177 x178 x179 x180 x181 x182 x183 x184 x185 x186 : Value), K' { tmps := List.toArray (u0 :: .int .i64 nm :: .slice (some ⟨g, off, none⟩) nn c :: u3 :: u4 :: u5 :: u6 :: .pointer (some ⟨b, 0, none⟩) :: x8 :: x9 :: .int .i64 (k : Int) :: u11 :: .int .i64 (f : Int) :: .int .i64 (t : Int) :: .int .i64 0 :: x15 :: x16 :: x17 :: u18 :: u19 :: u20 :: u21 :: u22 :: u23 :: u24 :: u25 :: u26 :: u27 :: u28 :: u29 :: u30 :: u31 :: u32 :: u33 :: u34 :: u35 :: u36 :: u37 :: u38 :: u39 :: u40 :: u41 :: u42 :: u43 :: u44 :: u45 :: u46 :: u47 :: u48 :: u49 :: u50 :: u51 :: u52 :: u53 :: u54 :: u55 :: u56 :: u57 :: u58 :: u59 :: u60 :: u61 :: u62 :: u63 :: u64 :: u65 :: u66 :: u67 :: u68 :: u69 :: u70 :: u71 :: .int .i64 4 :: x73 :: x74 :: x75 :: x76 :: x77 :: x78 :: x79 :: x80 :: x81 :: x82 :: x83 :: x84 :: x85 :: x86 :: x87 :: x88 :: x89 :: x90 :: x91 :: x92 :: x93 :: x94 :: x95 :: x96 :: x97 :: x98 :: x99 :: x100 :: x101 :: x102 :: x103 :: x104 :: x105 :: x106 :: x107 :: x108 :: x109 :: x110 :: x111 :: x112 :: x113 :: x114 :: x115 :: x116 :: x117 :: x118 :: x119 :: x120 :: x121 :: x122 :: x123 :: x124 :: x125 :: x126 :: x127 :: x128 :: x129 :: x130 :: x131 :: x132 :: x133 :: x134 :: x135 :: x136 :: x137 :: x138 :: x139 :: x140 :: x141 :: x142 :: x143 :: x144 :: x145 :: x146 :: x147 :: x148 :: x149 :: x150 :: x151 :: x152 :: x153 :: x154 :: x155 :: x156 :: x157 :: x158 :: x159 :: x160 :: x161 :: x162 :: x163 :: x164 :: x165 :: x166 :: x167 :: x168 :: x169 :: x170 :: x171 :: x172 :: x173 :: x174 :: x175 :: x176 :: x177 :: x178 :: x179 :: x180 :: x181 :: x182 :: x183 :: x184 :: x185 :: x186 :: u187 :: u188 :: u189 :: u190 :: u191 :: u192 :: u193 :: u194 :: u195 :: u196 :: u197 :: u198 :: u199 :: u200 :: u201 :: u202 :: u203 :: u204 :: u205 :: u206 :: u207 :: u208 :: u209 :: u210 :: u211 :: u212 :: u213 :: u214 :: u215 :: u216 :: u217 :: u218 :: u219 :: u220 :: u221 :: u222 :: u223 :: u224 :: u225 :: u226 :: []), defers := [] } w') :
    Code.wp Try.prog CODE (Exit.then K' noExit) { tmps := List.toArray (u0 :: .int .i64 nm :: .slice (some ⟨g, off, none⟩) nn c :: u3 :: u4 :: u5 :: u6 :: .pointer (some ⟨b, 0, none⟩) :: .slice (some ⟨gA, oA, none⟩) n cA :: .slice (some ⟨gV, oV, none⟩) n cV :: .int .i64 (k : Int) :: u11 :: .int .i64 (f : Int) :: .int .i64 (t : Int) :: .int .i64 0 :: u15 :: u16 :: u17 :: u18 :: u19 :: u20 :: u21 :: u22 :: u23 :: u24 :: u25 :: u26 :: u27 :: u28 :: u29 :: u30 :: u31 :: u32 :: u33 :: u34 :: u35 :: u36 :: u37 :: u38 :: u39 :: u40 :: u41 :: u42 :: u43 :: u44 :: u45 :: u46 :: u47 :: u48 :: u49 :: u50 :: u51 :: u52 :: u53 :: u54 :: u55 :: u56 :: u57 :: u58 :: u59 :: u60 :: u61 :: u62 :: u63 :: u64 :: u65 :: u66 :: u67 :: u68 :: u69 :: u70 :: u71 :: .int .i64 4 :: u73 :: u74 :: u75 :: u76 :: u77 :: u78 :: u79 :: u80 :: u81 :: u82 :: u83 :: u84 :: u85 :: u86 :: u87 :: u88 :: u89 :: u90 :: u91 :: u92 :: u93 :: u94 :: u95 :: u96 :: u97 :: u98 :: u99 :: u100 :: u101 :: u102 :: u103 :: u104 :: u105 :: u106 :: u107 :: u108 :: u109 :: u110 :: u111 :: u112 :: u113 :: u114 :: u115 :: u116 :: u117 :: u118 :: u119 :: u120 :: u121 :: u122 :: u123 :: u124 :: u125 :: u126 :: u127 :: u128 :: u129 :: u130 :: u131 :: u132 :: u133 :: u134 :: u135 :: u136 :: u137 :: u138 :: u139 :: u140 :: u141 :: u142 :: u143 :: u144 :: u145 :: u146 :: u147 :: u148 :: u149 :: u150 :: u151 :: u152 :: u153 :: u154 :: u155 :: u156 :: u157 :: u158 :: u159 :: u160 :: u161 :: u162 :: u163 :: u164 :: u165 :: u166 :: u167 :: u168 :: u169 :: u170 :: u171 :: u172 :: u173 :: u174 :: u175 :: u176 :: u177 :: u178 :: u179 :: u180 :: u181 :: u182 :: u183 :: u184 :: u185 :: u186 :: u187 :: u188 :: u189 :: u190 :: u191 :: u192 :: u193 :: u194 :: u195 :: u196 :: u197 :: u198 :: u199 :: u200 :: u201 :: u202 :: u203 :: u204 :: u205 :: u206 :: u207 :: u208 :: u209 :: u210 :: u211 :: u212 :: u213 :: u214 :: u215 :: u216 :: u217 :: u218 :: u219 :: u220 :: u221 :: u222 :: u223 :: u224 :: u225 :: u226 :: []), defers := [] } wr := by
  have k1 : decide (k < nn) = true := by simpa using hkn
  have k2 : decide ((k : Int) < (nn : Int)) = true := by simp; omega
  have k3 : (k : Int) < (nn : Int) := by omega
  obtain ⟨f1, hf1⟩ : ∃ m, f = m + 1 := ⟨f - 1, by omega⟩
  have wf1 : IntKind.i64.wrap ((f : Int) - 1) = (f1 : Int) := by rw [show (f : Int) - 1 = (f1 : Int) by omega]; exact IntWalk.i64_in _ (by omega)
  obtain ⟨t1, ht1⟩ : ∃ m, t = m + 1 := ⟨t - 1, by omega⟩
  have wt1 : IntKind.i64.wrap ((t : Int) - 1) = (t1 : Int) := by rw [show (t : Int) - 1 = (t1 : Int) by omega]; exact IntWalk.i64_in _ (by omega)
  have HG1 := hide hf1
  have HG2 := hide ht1
  have ht9 : (t : Int) ≤ 200 := by omega
  have hf9 : (f : Int) ≤ 200 := by omega
  have hn9 : (n : Int) ≤ 190 := by omega
  have hcA : (cA : Int) ≤ 9223372036854775807 := by unfold maxLen at hA2; omega
  have hcV : (cV : Int) ≤ 9223372036854775807 := by unfold maxLen at hV2; omega
  have HM := hide hM
  have HL := hide hL
  have HC := hide hC
  have HNG := hide h0
  have HF1 := hide h1
  have HFT := hide h2
  have HTN := hide h3
  have hnB := hn
  have HHK := hide hK
  obtain ⟨d5, d6⟩ := hC _ hM.ob.bel
  obtain ⟨i0, hi, hz0, hz1, hz2⟩ := info_parts info_bo
  obtain ⟨j0, hj, hy0, hy1, hy2⟩ := info_parts info_wo
  have HI := hide hi
  have HZ0 := hide hz0
  have HZ1 := hide hz1
  have HZ2 := hide hz2
  have HJ := hide hj
  have HY0 := hide hy0
  have HY1 := hide hy1
  have HY2 := hide hy2
  clear hi hz0 hz1 hz2 hj hy0 hy1 hy2
  clear hf1 ht1 hM hL hC h0 h1 h2 h3 hK hn
  subst hcode
  conv => arg 2; whnf
  have HDO := hide (obj_del HM.out.ob HL.out.good (by omega) f t)
  have HPL := hide (HL.out.del_ (by rw [HM.out.hn]; omega) HF1.out HFT.out (by rw [HM.out.hn]; exact HTN.out))
  rw [HPL.out.1] at HDO
  have hfn : f1 ≤ n := by have := HG1.out; have := HFT.out; have := HTN.out; omega
  have htn : t1 ≤ n := by have := HG2.out; have := HTN.out; omega
  have q1 : decide (f1 ≤ n) = true := by simpa using hfn
  have q2 : decide ((f1 : Int) ≤ (n : Int)) = true := by simp; omega
  have q3 : (f1 : Int) ≤ (n : Int) := by omega
  have q7 : (f1 : Int) ≤ (cA : Int) := by omega
  have q8 : (f1 : Int) ≤ (cV : Int) := by omega
  have q4 : decide (t1 ≤ n) = true := by simpa using htn
  have q5 : decide ((t1 : Int) ≤ (n : Int)) = true := by simp; omega
  have q6 : (t1 : Int) ≤ (n : Int) := by omega
  have q9 : (t1 : Int) ≤ (cA : Int) := by omega
  have q0 : (t1 : Int) ≤ (cV : Int) := by omega
  go_upto_region 17 with (go_at_call 26; (with_reducible refine Calls.mono HDO.out ?_); rintro r w4 ⟨rfl, ho, hk4⟩; have HM4 := hide (HM.out.keep ho hk4); clear ho hk4)
  obtain ⟨P4, hP4⟩ : ∃ P4, P4 = delQ P f t := ⟨_, rfl⟩
  rw [← hP4] at HM4 HPL
  clear hP4 HDO HM
  obtain ⟨wA, hwA⟩ : ∃ x : World, x = w4 := ⟨_, rfl⟩
  rw [← hwA] at HM4 ⊢
  clear hwA
  have HS0 := hide HM4.out.sh
  go_cut [8] from 77 to 86 (fun hv' wx => Obj w wx b P4 ∧ Sl wx 29 2 (.slice (some ⟨gV, oV, none⟩) n cV) n (rows woC V) ∧ (H.take f1 ++ H.drop t1).length = (f1 + (n - t1)) ∧ Sl wx 4 1 hv' (f1 + (n - t1)) (rows boC (H.take f1 ++ H.drop t1)) ∧ ∃ g, hv'.ownBlock = some g ∧ w.heap.size ≤ g)
  case first =>
    obtain ⟨Bv, hBv⟩ : ∃ Bv, (if cA = t1 then some (⟨gA, oA, none⟩ : Addr) else some (⟨gA, oA + t1, none⟩ : Addr)) = Bv := ⟨_, rfl⟩
    have HFR := hide (fun (x : World) (hb : Below wA.heap.size wA x) => boF (w := x) (HS0.out.only (Only.of_below (F := fun _ => False) hb) fun _ _ f => f) hfn)
    have HBK := hide (fun (x : World) (hb : Below wA.heap.size wA x) => boB (w := x) (HS0.out.only (Only.of_below (F := fun _ => False) hb) fun _ _ f => f) hA1 htn)
    rw [hBv] at HBK
    have HOWN := hide (fun (x : World) (hb : Below wA.heap.size wA x) => own_bools (.slice (some ⟨gA, oA, none⟩) f1 cA) f1 (rows boC (H.take f1)) x (HFR.out x hb) (boC_one _) (by omega))
    go_region_law (first | (go_simp; go_at_call 24; (with_reducible refine Calls.mono (HOWN.out _ ((Below.refl _ wA).drew)) ?_); rintro r w5 ⟨v5, rfl, h5, g5, b5⟩; have HS5 := hide h5; have HG5 := hide (show ∃ g, v5.ownBlock = some g ∧ wA.heap.size ≤ g from g5); have HB5 := hide ((Below.refl wA.heap.size wA).drew.trans b5); clear h5 g5 b5) | (refine step_append_sl rfl (.tmp 81) (.tmp 85) 46 rfl 4 i0 _ 1 1 Try.underlying46 HI.out HZ0.out HZ1.out HZ2.out rfl v5 f1 _ rfl HS5.out (.slice Bv (n - t1) (cA - t1)) rfl (n - t1) (rows boC (H.drop t1)) (HBK.out w5 HB5.out) (boC_one _) (by unfold maxLen; omega) (by omega) ?_; intro v7 w7 hs7 ho7 hv7; have HS7 := hide hs7; have HB7 := hide (HB5.out.trans (ho7.below HB5.out.size (by obtain ⟨g, e, h⟩ := HG5.out; intro i hi; rw [e] at hi; cases hi; exact h))); have HG7 := hide (own_next HG5.out HB5.out hv7); clear hs7 ho7 hv7))
    all_goals go_wp2_with fail
    all_goals go_meet
    all_goals exact HM4.out.newH HB7.out (by simp [HM4.out.hn]; omega) (by have := HS7.out; rw [← rows_append] at this; exact this) HG7.out
  case rest =>
    obtain ⟨ho5, hs5, hl5, hb5, hg5⟩ := hcut
    have HO5 := hide ho5
    have HL5 := hide hl5
    have HBB := hide hb5
    have HGB := hide hg5
    clear HS0
    have HS0 := hide hs5
    clear ho5 hs5 hl5 hb5 hg5
    obtain ⟨wA, hwA⟩ : ∃ x : World, x = wc := ⟨_, rfl⟩
    rw [← hwA] at HO5 HBB HS0 ⊢
    clear hwA
    go_upto_region 18 with fail
    obtain ⟨Bv, hBv⟩ : ∃ Bv, (if cV = t1 then some (⟨gV, oV, none⟩ : Addr) else some (⟨gV, oV + t1 * 2, none⟩ : Addr)) = Bv := ⟨_, rfl⟩
    have HFR := hide (fun (x : World) (hb : Below wA.heap.size wA x) => woF (w := x) (HS0.out.only (Only.of_below (F := fun _ => False) hb) fun _ _ f => f) hfn)
    have HBK := hide (fun (x : World) (hb : Below wA.heap.size wA x) => woB (w := x) (HS0.out.only (Only.of_below (F := fun _ => False) hb) fun _ _ f => f) hV1 htn)
    rw [hBv] at HBK
    have HOWN := hide (fun (x : World) (hb : Below wA.heap.size wA x) => own_words (.slice (some ⟨gV, oV, none⟩) f1 cV) f1 (rows woC (V.take f1)) x (HFR.out x hb) (woC_one _) (by omega))
    go_region_law (first | (go_simp; go_at_call 25; (with_reducible refine Calls.mono (HOWN.out _ ((Below.refl _ wA).drew)) ?_); rintro r w5 ⟨v5, rfl, h5, g5, b5⟩; have HS5 := hide h5; have HG5 := hide (show ∃ g, v5.ownBlock = some g ∧ wA.heap.size ≤ g from g5); have HB5 := hide ((Below.refl wA.heap.size wA).drew.trans b5); clear h5 g5 b5) | (refine step_append_sl rfl (.tmp 91) (.tmp 95) 47 rfl 29 j0 _ 2 16 Try.underlying47 HJ.out HY0.out HY1.out HY2.out rfl v5 f1 _ rfl HS5.out (.slice Bv (n - t1) (cV - t1)) rfl (n - t1) (rows woC (V.drop t1)) (HBK.out w5 HB5.out) (woC_one _) (by unfold maxLen; omega) (by omega) ?_; intro v7 w7 hs7 ho7 hv7; have HS7 := hide hs7; have HB7 := hide (HB5.out.trans (ho7.below HB5.out.size (by obtain ⟨g, e, h⟩ := HG5.out; intro i hi; rw [e] at hi; cases hi; exact h))); have HG7 := hide (own_next HG5.out HB5.out hv7); clear hs7 ho7 hv7))
    all_goals go_wp2_with fail
    all_goals
      have HFIN := hide (lsm_fin HO5.out HL5.out HBB.out HGB.out HB7.out (V' := V.take f1 ++ V.drop t1) (by simp [HM4.out.vn]; omega) (by have := HS7.out; rw [← rows_append] at this; exact this) HG7.out)
      refine HHK.out _ _ _ ⟨f1 + (n - t1), P4, H.take f1 ++ H.drop t1, V.take f1 ++ V.drop t1, HFIN.out, ?_, by have := HG1.out; have := HG2.out; have := HFT.out; omega⟩ _ _ _ _ _ _ _ _ _ _ _ _ _ _ _ _ _ _ _ _ _ _ _ _ _ _ _ _ _ _ _ _ _ _ _ _ _ _ _ _ _ _ _ _ _ _ _ _ _ _ _ _ _ _ _ _ _ _ _ _ _ _ _ _ _ _ _ _ _ _ _ _ _ _ _ _ _ _ _ _ _ _ _ _ _ _ _ _ _ _ _ _ _ _ _ _ _ _ _ _ _ _ _ _ _ _ _ _ _ _ _ _ _ _ _ _ _
      have e := HPL.out.2
      rw [HG1.out, HG2.out, Nat.add_sub_cancel, Nat.add_sub_cancel] at e
      exact e
set_option maxRecDepth 100000 in
set_option maxHeartbeats 32000000 in
theorem sw_5 {w wr : World} {b g off nn c k n f t gA oA cA gV oV cV : Nat} {nm : Int} {a : Ac} {P : List Pc} {H : List Bool} {V : List (Int × Int)} {K' : Act → World → Prop}  {u0 u3 u4 u5 u6 u11 u15 u16 u17 u18 u19 u20 u21 u22 u23 u24 u25 u26 u27 u28 u29 u30 u31 u32 u33 u34 u35 u36 u37 u38 u39 u40 u41 u42 u43 u44 u45 u46 u47 u48 u49 u50 u51 u52 u53 u54 u55 u56 u57 u58 u59 u60 u61 u62 u63 u64 u65 u66 u67 u68 u69 u70 u71 u73 u74 u75 u76 u77 u78 u79 u80 u81 u82 u83 u84 u85 u86 u87 u88 u89 u90 u91 u92 u93 u94 u95 u96 u97 u98 u99 u100 u101 u102 u103 u104 u105 u106 u107 u108 u109 u110 u111 u112 u113 u114 u115 u116 u117 u118 u119 u120 u121 u122 u123 u124 u125 u126 u127 u128 u129 u130 u131 u132 u133 u134 u135 u136 u137 u138 u139 u140 u141 u142 u143 u144 u145 u146 u147 u148 u149 u150 u151 u152 u153 u154 u155 u156 u157 u158 u159 u160 u161 u162 u163 u164 u165 u166 u167 u168 u169 u170 u171 u172 u173 u174 u175 u176 u177 u178 u179 u180 u181 u182 u183 u184 u185 u186 u187 u188 u189 u190 u191 u192 u193 u194 u195 u196 u197 u198 u199 u200 u201 u202 u203 u204 u205 u206 u207 u208 u209 u210 u211 u212 u213 u214 u215 u216 u217 u218 u219 u220 u221 u222 u223 u224 u225 u226 : Value}
    (hkn : k < nn) (h0 : 0 ≤ nm) (hn : n ≤ 190) (h1 : 1 ≤ f) (h2 : f ≤ t) (h3 : t ≤ n + 1) (hM : LsM w wr b P H V (.slice (some ⟨gA, oA, none⟩) n cA) (.slice (some ⟨gV, oV, none⟩) n cV) n) (hL : Lst P nm H V)
    (hC : ∀ x : World, Below w.heap.size w x → x.cell? ⟨g, off + k * 8 + 5, none⟩ = some (.int .i64 a.k) ∧ x.cell? ⟨g, off + k * 8 + 5 + 1, none⟩ = some (.int .i64 a.v)) (hA1 : n ≤ cA) (hV1 : n ≤ cV) (hA2 : cA ≤ maxLen) (hV2 : cV ≤ maxLen) (_d4 : wr.cell? ⟨g, off + k * 8 + 4, none⟩ = some (.int .i64 a.n))
    (CODE : Code) (hcode : CODE = (subBlock 2 ((Try.f5).body.getD .skip)).getD .skip)
    (hK : ∀ (x8 x9 : Value) (w' : World), SwRel w b nm n x8 x9 w' → ∀ (x15 x16 x17 x73 x74 x75 x76 x77 x78 x79 x80 x81 x82 x83 x84 x85 x86 x87 x88 x89 x90 x91 x92 x93 x94 x95 x96 x97 x98 x99 x100 x101 x102 x103 x104 x105 x106 x107 x108 x109 x110 x111 x112 x113 x114 x115 x116 x117 x118 x119 x120 x121 x122 x123 x124 x125 x126 x127 x128 x129 x130 x131 x132 x133 x134 x135 x136 x137 x138 x139 x140 x141 x142 x143 x144 x145 x146 x147 x148 x149 x150 x151 x152 x153 x154 x155 x156 x157 x158 x159 x160 x161 x162 x163 x164 x165 x166 x167 x168 x169 x170 x171 x172 x173 x174 x175 x176 x177 x178 x179 x180 x181 x182 x183 x184 x185 x186 : Value), K' { tmps := List.toArray (u0 :: .int .i64 nm :: .slice (some ⟨g, off, none⟩) nn c :: u3 :: u4 :: u5 :: u6 :: .pointer (some ⟨b, 0, none⟩) :: x8 :: x9 :: .int .i64 (k : Int) :: u11 :: .int .i64 (f : Int) :: .int .i64 (t : Int) :: .int .i64 0 :: x15 :: x16 :: x17 :: u18 :: u19 :: u20 :: u21 :: u22 :: u23 :: u24 :: u25 :: u26 :: u27 :: u28 :: u29 :: u30 :: u31 :: u32 :: u33 :: u34 :: u35 :: u36 :: u37 :: u38 :: u39 :: u40 :: u41 :: u42 :: u43 :: u44 :: u45 :: u46 :: u47 :: u48 :: u49 :: u50 :: u51 :: u52 :: u53 :: u54 :: u55 :: u56 :: u57 :: u58 :: u59 :: u60 :: u61 :: u62 :: u63 :: u64 :: u65 :: u66 :: u67 :: u68 :: u69 :: u70 :: u71 :: .int .i64 5 :: x73 :: x74 :: x75 :: x76 :: x77 :: x78 :: x79 :: x80 :: x81 :: x82 :: x83 :: x84 :: x85 :: x86 :: x87 :: x88 :: x89 :: x90 :: x91 :: x92 :: x93 :: x94 :: x95 :: x96 :: x97 :: x98 :: x99 :: x100 :: x101 :: x102 :: x103 :: x104 :: x105 :: x106 :: x107 :: x108 :: x109 :: x110 :: x111 :: x112 :: x113 :: x114 :: x115 :: x116 :: x117 :: x118 :: x119 :: x120 :: x121 :: x122 :: x123 :: x124 :: x125 :: x126 :: x127 :: x128 :: x129 :: x130 :: x131 :: x132 :: x133 :: x134 :: x135 :: x136 :: x137 :: x138 :: x139 :: x140 :: x141 :: x142 :: x143 :: x144 :: x145 :: x146 :: x147 :: x148 :: x149 :: x150 :: x151 :: x152 :: x153 :: x154 :: x155 :: x156 :: x157 :: x158 :: x159 :: x160 :: x161 :: x162 :: x163 :: x164 :: x165 :: x166 :: x167 :: x168 :: x169 :: x170 :: x171 :: x172 :: x173 :: x174 :: x175 :: x176 :: x177 :: x178 :: x179 :: x180 :: x181 :: x182 :: x183 :: x184 :: x185 :: x186 :: u187 :: u188 :: u189 :: u190 :: u191 :: u192 :: u193 :: u194 :: u195 :: u196 :: u197 :: u198 :: u199 :: u200 :: u201 :: u202 :: u203 :: u204 :: u205 :: u206 :: u207 :: u208 :: u209 :: u210 :: u211 :: u212 :: u213 :: u214 :: u215 :: u216 :: u217 :: u218 :: u219 :: u220 :: u221 :: u222 :: u223 :: u224 :: u225 :: u226 :: []), defers := [] } w') :
    Code.wp Try.prog CODE (Exit.then K' noExit) { tmps := List.toArray (u0 :: .int .i64 nm :: .slice (some ⟨g, off, none⟩) nn c :: u3 :: u4 :: u5 :: u6 :: .pointer (some ⟨b, 0, none⟩) :: .slice (some ⟨gA, oA, none⟩) n cA :: .slice (some ⟨gV, oV, none⟩) n cV :: .int .i64 (k : Int) :: u11 :: .int .i64 (f : Int) :: .int .i64 (t : Int) :: .int .i64 0 :: u15 :: u16 :: u17 :: u18 :: u19 :: u20 :: u21 :: u22 :: u23 :: u24 :: u25 :: u26 :: u27 :: u28 :: u29 :: u30 :: u31 :: u32 :: u33 :: u34 :: u35 :: u36 :: u37 :: u38 :: u39 :: u40 :: u41 :: u42 :: u43 :: u44 :: u45 :: u46 :: u47 :: u48 :: u49 :: u50 :: u51 :: u52 :: u53 :: u54 :: u55 :: u56 :: u57 :: u58 :: u59 :: u60 :: u61 :: u62 :: u63 :: u64 :: u65 :: u66 :: u67 :: u68 :: u69 :: u70 :: u71 :: .int .i64 5 :: u73 :: u74 :: u75 :: u76 :: u77 :: u78 :: u79 :: u80 :: u81 :: u82 :: u83 :: u84 :: u85 :: u86 :: u87 :: u88 :: u89 :: u90 :: u91 :: u92 :: u93 :: u94 :: u95 :: u96 :: u97 :: u98 :: u99 :: u100 :: u101 :: u102 :: u103 :: u104 :: u105 :: u106 :: u107 :: u108 :: u109 :: u110 :: u111 :: u112 :: u113 :: u114 :: u115 :: u116 :: u117 :: u118 :: u119 :: u120 :: u121 :: u122 :: u123 :: u124 :: u125 :: u126 :: u127 :: u128 :: u129 :: u130 :: u131 :: u132 :: u133 :: u134 :: u135 :: u136 :: u137 :: u138 :: u139 :: u140 :: u141 :: u142 :: u143 :: u144 :: u145 :: u146 :: u147 :: u148 :: u149 :: u150 :: u151 :: u152 :: u153 :: u154 :: u155 :: u156 :: u157 :: u158 :: u159 :: u160 :: u161 :: u162 :: u163 :: u164 :: u165 :: u166 :: u167 :: u168 :: u169 :: u170 :: u171 :: u172 :: u173 :: u174 :: u175 :: u176 :: u177 :: u178 :: u179 :: u180 :: u181 :: u182 :: u183 :: u184 :: u185 :: u186 :: u187 :: u188 :: u189 :: u190 :: u191 :: u192 :: u193 :: u194 :: u195 :: u196 :: u197 :: u198 :: u199 :: u200 :: u201 :: u202 :: u203 :: u204 :: u205 :: u206 :: u207 :: u208 :: u209 :: u210 :: u211 :: u212 :: u213 :: u214 :: u215 :: u216 :: u217 :: u218 :: u219 :: u220 :: u221 :: u222 :: u223 :: u224 :: u225 :: u226 :: []), defers := [] } wr := by
  have k1 : decide (k < nn) = true := by simpa using hkn
  have k2 : decide ((k : Int) < (nn : Int)) = true := by simp; omega
  have k3 : (k : Int) < (nn : Int) := by omega
  obtain ⟨f1, hf1⟩ : ∃ m, f = m + 1 := ⟨f - 1, by omega⟩
  have wf1 : IntKind.i64.wrap ((f : Int) - 1) = (f1 : Int) := by rw [show (f : Int) - 1 = (f1 : Int) by omega]; exact IntWalk.i64_in _ (by omega)
  obtain ⟨t1, ht1⟩ : ∃ m, t = m + 1 := ⟨t - 1, by omega⟩
  have wt1 : IntKind.i64.wrap ((t : Int) - 1) = (t1 : Int) := by rw [show (t : Int) - 1 = (t1 : Int) by omega]; exact IntWalk.i64_in _ (by omega)
  have HG1 := hide hf1
  have HG2 := hide ht1
  have ht9 : (t : Int) ≤ 200 := by omega
  have hf9 : (f : Int) ≤ 200 := by omega
  have hn9 : (n : Int) ≤ 190 := by omega
  have hcA : (cA : Int) ≤ 9223372036854775807 := by unfold maxLen at hA2; omega
  have hcV : (cV : Int) ≤ 9223372036854775807 := by unfold maxLen at hV2; omega
  have HM := hide hM
  have HL := hide hL
  have HC := hide hC
  have HNG := hide h0
  have HF1 := hide h1
  have HFT := hide h2
  have HTN := hide h3
  have hnB := hn
  have HHK := hide hK
  obtain ⟨d5, d6⟩ := hC _ hM.ob.bel
  obtain ⟨i0, hi, hz0, hz1, hz2⟩ := info_parts info_bo
  obtain ⟨j0, hj, hy0, hy1, hy2⟩ := info_parts info_wo
  have HI := hide hi
  have HZ0 := hide hz0
  have HZ1 := hide hz1
  have HZ2 := hide hz2
  have HJ := hide hj
  have HY0 := hide hy0
  have HY1 := hide hy1
  have HY2 := hide hy2
  clear hi hz0 hz1 hz2 hj hy0 hy1 hy2
  clear hf1 ht1 hM hL hC h0 h1 h2 h3 hK hn
  subst hcode
  conv => arg 2; whnf
  have HDO := hide (obj_del HM.out.ob HL.out.good (by omega) f t)
  have HPL := hide (HL.out.del_ (by rw [HM.out.hn]; omega) HF1.out HFT.out (by rw [HM.out.hn]; exact HTN.out))
  rw [HPL.out.1] at HDO
  have hfn : f1 ≤ n := by have := HG1.out; have := HFT.out; have := HTN.out; omega
  have htn : t1 ≤ n := by have := HG2.out; have := HTN.out; omega
  have q1 : decide (f1 ≤ n) = true := by simpa using hfn
  have q2 : decide ((f1 : Int) ≤ (n : Int)) = true := by simp; omega
  have q3 : (f1 : Int) ≤ (n : Int) := by omega
  have q7 : (f1 : Int) ≤ (cA : Int) := by omega
  have q8 : (f1 : Int) ≤ (cV : Int) := by omega
  have q4 : decide (t1 ≤ n) = true := by simpa using htn
  have q5 : decide ((t1 : Int) ≤ (n : Int)) = true := by simp; omega
  have q6 : (t1 : Int) ≤ (n : Int) := by omega
  have q9 : (t1 : Int) ≤ (cA : Int) := by omega
  have q0 : (t1 : Int) ≤ (cV : Int) := by omega
  go_upto_region 17 with (go_at_call 26; (with_reducible refine Calls.mono HDO.out ?_); rintro r w4 ⟨rfl, ho, hk4⟩; have HM4 := hide (HM.out.keep ho hk4); clear ho hk4)
  obtain ⟨P4, hP4⟩ : ∃ P4, P4 = delQ P f t := ⟨_, rfl⟩
  rw [← hP4] at HM4 HPL
  clear hP4 HDO HM
  obtain ⟨wA, hwA⟩ : ∃ x : World, x = w4 := ⟨_, rfl⟩
  rw [← hwA] at HM4 ⊢
  clear hwA
  have HS0 := hide HM4.out.sh
  go_cut [8] from 77 to 86 (fun hv' wx => Obj w wx b P4 ∧ Sl wx 29 2 (.slice (some ⟨gV, oV, none⟩) n cV) n (rows woC V) ∧ (H.take f1 ++ H.drop t1).length = (f1 + (n - t1)) ∧ Sl wx 4 1 hv' (f1 + (n - t1)) (rows boC (H.take f1 ++ H.drop t1)) ∧ ∃ g, hv'.ownBlock = some g ∧ w.heap.size ≤ g)
  case first =>
    obtain ⟨Bv, hBv⟩ : ∃ Bv, (if cA = t1 then some (⟨gA, oA, none⟩ : Addr) else some (⟨gA, oA + t1, none⟩ : Addr)) = Bv := ⟨_, rfl⟩
    have HFR := hide (fun (x : World) (hb : Below wA.heap.size wA x) => boF (w := x) (HS0.out.only (Only.of_below (F := fun _ => False) hb) fun _ _ f => f) hfn)
    have HBK := hide (fun (x : World) (hb : Below wA.heap.size wA x) => boB (w := x) (HS0.out.only (Only.of_below (F := fun _ => False) hb) fun _ _ f => f) hA1 htn)
    rw [hBv] at HBK
    have HOWN := hide (fun (x : World) (hb : Below wA.heap.size wA x) => own_bools (.slice (some ⟨gA, oA, none⟩) f1 cA) f1 (rows boC (H.take f1)) x (HFR.out x hb) (boC_one _) (by omega))
    go_region_law (first | (go_simp; go_at_call 24; (with_reducible refine Calls.mono (HOWN.out _ ((Below.refl _ wA).drew)) ?_); rintro r w5 ⟨v5, rfl, h5, g5, b5⟩; have HS5 := hide h5; have HG5 := hide (show ∃ g, v5.ownBlock = some g ∧ wA.heap.size ≤ g from g5); have HB5 := hide ((Below.refl wA.heap.size wA).drew.trans b5); clear h5 g5 b5) | (refine step_append_sl rfl (.tmp 81) (.tmp 85) 46 rfl 4 i0 _ 1 1 Try.underlying46 HI.out HZ0.out HZ1.out HZ2.out rfl v5 f1 _ rfl HS5.out (.slice Bv (n - t1) (cA - t1)) rfl (n - t1) (rows boC (H.drop t1)) (HBK.out w5 HB5.out) (boC_one _) (by unfold maxLen; omega) (by omega) ?_; intro v7 w7 hs7 ho7 hv7; have HS7 := hide hs7; have HB7 := hide (HB5.out.trans (ho7.below HB5.out.size (by obtain ⟨g, e, h⟩ := HG5.out; intro i hi; rw [e] at hi; cases hi; exact h))); have HG7 := hide (own_next HG5.out HB5.out hv7); clear hs7 ho7 hv7))
    all_goals go_wp2_with fail
    all_goals go_meet
    all_goals exact HM4.out.newH HB7.out (by simp [HM4.out.hn]; omega) (by have := HS7.out; rw [← rows_append] at this; exact this) HG7.out
  case rest =>
    obtain ⟨ho5, hs5, hl5, hb5, hg5⟩ := hcut
    have HO5 := hide ho5
    have HL5 := hide hl5
    have HBB := hide hb5
    have HGB := hide hg5
    clear HS0
    have HS0 := hide hs5
    clear ho5 hs5 hl5 hb5 hg5
    obtain ⟨wA, hwA⟩ : ∃ x : World, x = wc := ⟨_, rfl⟩
    rw [← hwA] at HO5 HBB HS0 ⊢
    clear hwA
    go_upto_region 18 with fail
    obtain ⟨Bv, hBv⟩ : ∃ Bv, (if cV = t1 then some (⟨gV, oV, none⟩ : Addr) else some (⟨gV, oV + t1 * 2, none⟩ : Addr)) = Bv := ⟨_, rfl⟩
    have HFR := hide (fun (x : World) (hb : Below wA.heap.size wA x) => woF (w := x) (HS0.out.only (Only.of_below (F := fun _ => False) hb) fun _ _ f => f) hfn)
    have HBK := hide (fun (x : World) (hb : Below wA.heap.size wA x) => woB (w := x) (HS0.out.only (Only.of_below (F := fun _ => False) hb) fun _ _ f => f) hV1 htn)
    rw [hBv] at HBK
    have HOWN := hide (fun (x : World) (hb : Below wA.heap.size wA x) => own_words (.slice (some ⟨gV, oV, none⟩) f1 cV) f1 (rows woC (V.take f1)) x (HFR.out x hb) (woC_one _) (by omega))
    go_region_law (first | (go_simp; go_at_call 25; (with_reducible refine Calls.mono (HOWN.out _ ((Below.refl _ wA).drew)) ?_); rintro r w5 ⟨v5, rfl, h5, g5, b5⟩; have HS5 := hide h5; have HG5 := hide (show ∃ g, v5.ownBlock = some g ∧ wA.heap.size ≤ g from g5); have HB5 := hide ((Below.refl wA.heap.size wA).drew.trans b5); clear h5 g5 b5) | (refine step_append_sl rfl (.tmp 91) (.tmp 95) 47 rfl 29 j0 _ 2 16 Try.underlying47 HJ.out HY0.out HY1.out HY2.out rfl v5 f1 _ rfl HS5.out (.slice Bv (n - t1) (cV - t1)) rfl (n - t1) (rows woC (V.drop t1)) (HBK.out w5 HB5.out) (woC_one _) (by unfold maxLen; omega) (by omega) ?_; intro v7 w7 hs7 ho7 hv7; have HS7 := hide hs7; have HB7 := hide (HB5.out.trans (ho7.below HB5.out.size (by obtain ⟨g, e, h⟩ := HG5.out; intro i hi; rw [e] at hi; cases hi; exact h))); have HG7 := hide (own_next HG5.out HB5.out hv7); clear hs7 ho7 hv7))
    all_goals go_wp2_with fail
    all_goals
      have HFIN := hide (lsm_fin HO5.out HL5.out HBB.out HGB.out HB7.out (V' := V.take f1 ++ V.drop t1) (by simp [HM4.out.vn]; omega) (by have := HS7.out; rw [← rows_append] at this; exact this) HG7.out)
      refine HHK.out _ _ _ ⟨f1 + (n - t1), P4, H.take f1 ++ H.drop t1, V.take f1 ++ V.drop t1, HFIN.out, ?_, by have := HG1.out; have := HG2.out; have := HFT.out; omega⟩ _ _ _ _ _ _ _ _ _ _ _ _ _ _ _ _ _ _ _ _ _ _ _ _ _ _ _ _ _ _ _ _ _ _ _ _ _ _ _ _ _ _ _ _ _ _ _ _ _ _ _ _ _ _ _ _ _ _ _ _ _ _ _ _ _ _ _ _ _ _ _ _ _ _ _ _ _ _ _ _ _ _ _ _ _ _ _ _ _ _ _ _ _ _ _ _ _ _ _ _ _ _ _ _ _ _ _ _ _ _ _ _ _ _ _ _ _
      have e := HPL.out.2
      rw [HG1.out, HG2.out, Nat.add_sub_cancel, Nat.add_sub_cancel] at e
      exact e
set_option maxRecDepth 100000 in
set_option maxHeartbeats 32000000 in
theorem last_walk (size nm : Int) (l : List Ac) (v : Value) (w : World) (h : ActsRd w v l) (hm : l.length ≤ maxLen) : Calls Try.prog 5 #[.int .i64 size, .int .i64 nm, v] w fun e w' => e = .returned (.bool true) ∧ Below w.heap.size w w' := by
  obtain ⟨A, c, rfl, _⟩ := id h.row
  obtain ⟨nn, hnn⟩ : ∃ nn, nn = l.length := ⟨_, rfl⟩
  have hl2 : (nn : Int) ≤ 9223372036854775807 := by unfold maxLen at hm; omega
  have HAR := hide h
  rw [← hnn] at HAR ⊢
  have HNN := hide hnn
  clear h hm hnn
  go_enter Try.func5, Try.ntmps5
  go_wp2_with fail
  refine (Calls.mono (lives_any w)) ?_
  rintro r w1 ⟨rfl, b1⟩
  have B1 := hide b1
  clear b1
  by_cases h30 : 30 < nn
  · have u1 : decide (30 < nn) = true := by simpa using h30
    have u2 : decide ((30 : Int) < (nn : Int)) = true := by simp; omega
    have u3 : (30 : Int) < (nn : Int) := by omega
    clear h30
    go_wp2
    go_ret
    exact ⟨rfl, B1.out⟩
  have u1 : decide (30 < nn) = false := by simpa using h30
  have u2 : decide ((30 : Int) < (nn : Int)) = false := by simp; omega
  have u3 : ¬ (30 : Int) < (nn : Int) := by omega
  have H30 := hide h30
  clear h30
  by_cases hneg : nm < 0
  · have v1 : decide (nm < 0) = true := by simpa using hneg
    go_wp2
    go_ret
    exact ⟨rfl, B1.out⟩
  have v1 : decide (nm < 0) = false := by simpa using hneg
  have v2 : ¬ nm < 0 := hneg
  have HNG := hide (show 0 ≤ nm by omega)
  clear hneg
  obtain ⟨p0, hp0⟩ : ∃ p, p = pickZ size 100 := ⟨_, rfl⟩
  have ra := pickZ_range size (k := 100) (by omega)
  rw [← hp0] at ra
  obtain ⟨s, hs⟩ : ∃ s : Nat, (s : Int) = 1 + p0 := ⟨(1 + p0).toNat, by omega⟩
  have ws : IntKind.i64.wrap (1 + p0) = (s : Int) := by rw [hs]; exact IntWalk.i64_in _ (by omega)
  have hs2 : s ≤ 100 := by omega
  have HP0 := hide hp0
  clear hp0 ra hs
  go_wp2_with fail
  refine (Calls.mono (pick_any size 100 _ (by omega) (by omega))) ?_
  rintro r w2 ⟨rfl, rfl⟩
  rw [← HP0.out]
  go_wp2_with fail
  refine (Calls.mono (obj_new B1.out)) ?_
  rintro r w2 ⟨b, rfl, h2, b2⟩
  have H2 := hide h2
  clear h2 b2 HP0
  obtain ⟨i0, hi, hz0, hz1, hz2⟩ := info_parts info_bo
  obtain ⟨j0, hj, hy0, hy1, hy2⟩ := info_parts info_wo
  have hmk := fun W => run_make (P := Try.prog) (w := W) 46 4 i0 _ Try.underlying46 hi hz0 .i64 .i64 (s : Int) (s : Int) (by omega) (by omega) (by rw [hz2]; omega) (by omega)
  have hmw := fun W => run_make (P := Try.prog) (w := W) 47 29 j0 _ Try.underlying47 hj hy0 .i64 .i64 (s : Int) (s : Int) (by omega) (by omega) (by rw [hy2]; omega) (by omega)
  rw [hz1] at hmk
  rw [hy1] at hmw
  simp only [Int.toNat_natCast] at hmk hmw
  obtain ⟨ZB, hZB⟩ : ∃ Z, Z = madeCells (Value.bool false).cells (s * 1) := ⟨_, rfl⟩
  obtain ⟨ZW, hZW⟩ : ∃ Z, Z = madeCells (Value.agg #[.int .i64 0, .int .i64 0]).cells (s * 2) := ⟨_, rfl⟩
  rw [← hZB] at hmk
  rw [← hZW] at hmw
  have HZB := hide (show ZB.toList = rows boC (List.replicate s false) by rw [hZB]; exact zero_rows (z := .bool false) (y := false) rfl (by simp [boC]) s)
  have HZW := hide (show ZW.toList = rows woC (List.replicate s (0, 0)) by rw [hZW]; exact zero_rows (z := .agg #[.int .i64 0, .int .i64 0]) (y := ((0 : Int), (0 : Int))) rfl (by simp [woC]) s)
  clear hi hz0 hz1 hz2 hj hy0 hy1 hy2 hZB hZW
  go_upto_region 7 with fail
  go_cut [8, 9] (fun hv vv wx => LsM w wx b [] (List.replicate s false) (List.replicate s (0, 0)) hv vv s)
  case first =>
    go_region
    all_goals go_wp2_with fail
    all_goals go_meet
    · have hb := (Below.refl w2.heap.size w2).alloc (Nat.le_refl _) (.cells ZB 4)
      exact lsm_start H2.out ((hb.alloc (by simp) (.cells ZW 29)).drew) (((Blk.new w2 _ _).alloc _).drew) (by have := (Blk.new (w2.alloc (.cells ZB 4)) 29 ZW).drew; simpa using this) (Nat.le_refl _) (Nat.le_succ _) HZB.out HZW.out hs2
    · have hb := (Below.refl w2.heap.size w2).alloc (Nat.le_refl _) (.cells ZW 29)
      exact lsm_start H2.out ((hb.alloc (by simp) (.cells ZB 4)).drew) (by have := (Blk.new (w2.alloc (.cells ZW 29)) 4 ZB).drew; simpa using this) (((Blk.new w2 _ _).alloc _).drew) (Nat.le_succ _) (Nat.le_refl _) HZB.out HZW.out hs2
  case rest =>
    have HM0 := hide hcut
    clear hcut hmk hmw HZB HZW H2 ws
    go_wp2_with fail
    go_loopw [8, 9, 10] (fun hv vv iv wr => ∃ (k n : Nat) (P : List Pc) (H : List Bool) (V : List (Int × Int)), iv = .int .i64 (k : Int) ∧ k ≤ nn ∧ LsM w wr b P H V hv vv n ∧ Lst P nm H V ∧ n ≤ 100 + 3 * k) (fun _ _ iv _ => nn - (intOf iv).toNat)
    case atStart => exact ⟨0, s, [], _, _, rfl, Nat.zero_le _, HM0.out, Lst.zero nm s, by omega⟩
    case round =>
      clear HM0
      obtain ⟨k, n, P, H, V, rfl, hk, hM, hL, hn⟩ := hrel
      by_cases hlt : k < nn
      · have w1 : decide (k < nn) = true := by simpa using hlt
        have w2 : decide ((k : Int) < (nn : Int)) = true := by simp; omega
        have w3 : (k : Int) < (nn : Int) := by omega
        have hn9 : n ≤ 190 := by have := H30.out; omega
        obtain ⟨a, hx⟩ : ∃ a, l[k]? = some a := ⟨_, List.getElem?_eq_getElem (by rw [← HNN.out]; exact hlt)⟩
        obtain ⟨g, off, rfl, c0, c1, c2, c3, c4, c5, c6, c7⟩ := HAR.out.at_ HNN.out hx
        have HC := hide (fun (x : World) (hb : Below w.heap.size w x) => (⟨cell_keep c5 hb, cell_keep c6 hb⟩ : x.cell? ⟨g, off + k * 8 + 5, none⟩ = some (.int .i64 a.k) ∧ x.cell? ⟨g, off + k * 8 + 5 + 1, none⟩ = some (.int .i64 a.v)))
        have d0 := cell_keep c0 hM.ob.bel
        have d1 := cell_keep c1 hM.ob.bel
        have d2 := cell_keep c2 hM.ob.bel
        have d4 := cell_keep c4 hM.ob.bel
        have d5 := (HC.out _ hM.ob.bel).1
        have d6 := (HC.out _ hM.ob.bel).2
        obtain ⟨gA, oA, cA, rfl, hA1, hA2, _⟩ := own_form hM.sh hM.gh
        obtain ⟨gV, oV, cV, rfl, hV1, hV2, _⟩ := own_form hM.sv hM.gv
        have hAm : (cA : Int) ≤ 9223372036854775807 := by unfold maxLen at hA2; omega
        have hVm : (cV : Int) ≤ 9223372036854775807 := by unfold maxLen at hV2; omega
        obtain ⟨n1, hn1⟩ : ∃ m, m = n + 1 := ⟨_, rfl⟩
        have wn1 : IntKind.i64.wrap ((n : Int) + 1) = (n1 : Int) := by rw [show (n : Int) + 1 = (n1 : Int) by omega]; exact IntWalk.i64_in _ (by omega)
        obtain ⟨n2, hn2⟩ : ∃ m, m = n + 2 := ⟨_, rfl⟩
        have wn2 : IntKind.i64.wrap ((n : Int) + 2) = (n2 : Int) := by rw [show (n : Int) + 2 = (n2 : Int) by omega]; exact IntWalk.i64_in _ (by omega)
        obtain ⟨p1, hp1⟩ : ∃ p, p = pickZ a.fr n1 := ⟨_, rfl⟩
        have r1 := pickZ_range a.fr (k := (n1 : Int)) (by omega)
        rw [← hp1] at r1
        obtain ⟨x1, hx1⟩ : ∃ x1 : Nat, (x1 : Int) = p1 := ⟨p1.toNat, by omega⟩
        obtain ⟨f, hf⟩ : ∃ f : Nat, f = 1 + x1 := ⟨_, rfl⟩
        have wf : IntKind.i64.wrap (1 + p1) = (f : Int) := by rw [show 1 + p1 = (f : Int) by omega]; exact IntWalk.i64_in _ (by omega)
        obtain ⟨d, hd⟩ : ∃ d : Nat, (d : Int) = (n2 : Int) - (f : Int) := ⟨n2 - f, by omega⟩
        have wd : IntKind.i64.wrap ((n2 : Int) - (f : Int)) = (d : Int) := by rw [← hd]; exact IntWalk.i64_in _ (by omega)
        obtain ⟨p2, hp2⟩ : ∃ p, p = pickZ a.en d := ⟨_, rfl⟩
        have r2 := pickZ_range a.en (k := (d : Int)) (by omega)
        rw [← hp2] at r2
        obtain ⟨t, ht⟩ : ∃ t : Nat, (t : Int) = (f : Int) + p2 := ⟨((f : Int) + p2).toNat, by omega⟩
        have wt : IntKind.i64.wrap ((f : Int) + p2) = (t : Int) := by rw [← ht]; exact IntWalk.i64_in _ (by omega)
        have hf1 : 1 ≤ f := by omega
        have hft : f ≤ t := by omega
        have htn : t ≤ n + 1 := by omega
        obtain ⟨q, hq⟩ : ∃ q, q = pickZ a.kd 6 := ⟨_, rfl⟩
        have rq := pickZ_range a.kd (k := 6) (by omega)
        rw [← hq] at rq
        have HM := hide hM
        have HL := hide hL
        have HP1 := hide hp1
        have HP2 := hide hp2
        have HQ := hide hq
        have HRQ := hide rq
        have HLT := hide hlt
        have HN9 := hide hn
        have HF1 := hide hf1
        have HFT := hide hft
        have HTN := hide htn
        have hn1p : (0 : Int) < (n1 : Int) := by omega
        have hn1q : (n1 : Int) ≤ 100000 := by omega
        have hdp : (0 : Int) < (d : Int) := by omega
        have hdq : (d : Int) ≤ 100000 := by omega
        clear hM hL hp1 hp2 hq rq hlt hn hk hx c0 c1 c2 c3 c4 c5 c6 c7 hn1 hn2 r1 hx1 hf hd r2 ht hf1 hft htn
        go_wp2_with fail
        refine (Calls.mono (pick_any a.fr n1 _ hn1p hn1q)) ?_
        rintro r w2' ⟨rfl, rfl⟩
        rw [← HP1.out]
        go_wp2_with fail
        refine (Calls.mono (pick_any a.en d _ hdp hdq)) ?_
        rintro r w2' ⟨rfl, rfl⟩
        rw [← HP2.out]
        go_wp2_with fail
        refine (Calls.mono (pick_any a.kd 6 _ (by omega) (by omega))) ?_
        rintro r w2' ⟨rfl, rfl⟩
        rw [← HQ.out]
        go_upto_block 2 with fail
        go_cut [8, 9, 14] (fun hv' vv' ev wx => ∃ (n' : Nat) (P' : List Pc) (H' : List Bool) (V' : List (Int × Int)), ev = .int .i64 0 ∧ LsM w wx b P' H' V' hv' vv' n' ∧ Lst P' nm H' V' ∧ n' ≤ 100 + 3 * (k + 1))
        case first =>
          have hk : q = 0 ∨ q = 1 ∨ q = 2 ∨ q = 3 ∨ q = 4 ∨ q = 5 := by have := HRQ.out; omega
          clear HRQ
          rcases hk with hk | hk | hk | hk | hk | hk
          · subst hk
            refine part_in (sw_0 HLT.out HNG.out hn9 HF1.out HFT.out HTN.out HM.out HL.out HC.out hA1 hV1 hA2 hV2 d4 _ ?_ (fun x8 x9 w' hrel => ?_))
            · kernel_rfl
            intros
            go_wp2_with fail
            go_meet
            obtain ⟨n', P', H', V', e1, e2, e3⟩ := hrel
            exact ⟨n', P', H', V', rfl, e1, e2, by have := HN9.out; omega⟩
          · subst hk
            refine part_in (sw_1 HLT.out HNG.out hn9 HF1.out HFT.out HTN.out HM.out HL.out HC.out hA1 hV1 hA2 hV2 d4 _ ?_ (fun x8 x9 w' hrel => ?_))
            · kernel_rfl
            intros
            go_wp2_with fail
            go_meet
            obtain ⟨n', P', H', V', e1, e2, e3⟩ := hrel
            exact ⟨n', P', H', V', rfl, e1, e2, by have := HN9.out; omega⟩
          · subst hk
            refine part_in (sw_2 HLT.out HNG.out hn9 HF1.out HFT.out HTN.out HM.out HL.out HC.out hA1 hV1 hA2 hV2 d4 _ ?_ (fun x8 x9 w' hrel => ?_))
            · kernel_rfl
            intros
            go_wp2_with fail
            go_meet
            obtain ⟨n', P', H', V', e1, e2, e3⟩ := hrel
            exact ⟨n', P', H', V', rfl, e1, e2, by have := HN9.out; omega⟩
          · subst hk
            refine part_in (sw_3 HLT.out HNG.out hn9 HF1.out HFT.out HTN.out HM.out HL.out HC.out hA1 hV1 hA2 hV2 d4 _ ?_ (fun x8 x9 w' hrel => ?_))
            · kernel_rfl
            intros
            go_wp2_with fail
            go_meet
            obtain ⟨n', P', H', V', e1, e2, e3⟩ := hrel
            exact ⟨n', P', H', V', rfl, e1, e2, by have := HN9.out; omega⟩
          · subst hk
            refine part_in (sw_4 HLT.out HNG.out hn9 HF1.out HFT.out HTN.out HM.out HL.out HC.out hA1 hV1 hA2 hV2 d4 _ ?_ (fun x8 x9 w' hrel => ?_))
            · kernel_rfl
            intros
            go_wp2_with fail
            go_meet
            obtain ⟨n', P', H', V', e1, e2, e3⟩ := hrel
            exact ⟨n', P', H', V', rfl, e1, e2, by have := HN9.out; omega⟩
          · subst hk
            refine part_in (sw_5 HLT.out HNG.out hn9 HF1.out HFT.out HTN.out HM.out HL.out HC.out hA1 hV1 hA2 hV2 d4 _ ?_ (fun x8 x9 w' hrel => ?_))
            · kernel_rfl
            intros
            go_wp2_with fail
            go_meet
            obtain ⟨n', P', H', V', e1, e2, e3⟩ := hrel
            exact ⟨n', P', H', V', rfl, e1, e2, by have := HN9.out; omega⟩
        case rest =>
          obtain ⟨m, P2, H2, V2, rfl, hM2, hL2, hm2⟩ := hcut
          clear HM HL hA1 hA2 hV1 hV2 hAm hVm d0 d1 d2 d4 d5 d6 wn1 wn2 wf wd wt HP1 HP2 HQ HRQ HF1 HFT HTN HC
          obtain ⟨gB, oB, cB, rfl, _, _, _⟩ := own_form hM2.sh hM2.gh
          obtain ⟨gW, oW, cW, rfl, _, _, _⟩ := own_form hM2.sv hM2.gv
          have HM := hide hM2
          have HL := hide hL2
          have HN2 := hide hm2
          have hm9 : (m : Int) ≤ 200 := by have := H30.out; have := HLT.out; omega
          obtain ⟨m2, hm2e⟩ : ∃ x, x = m + 2 := ⟨_, rfl⟩
          have wm2 : IntKind.i64.wrap ((m : Int) + 2) = (m2 : Int) := by rw [show (m : Int) + 2 = (m2 : Int) by omega]; exact IntWalk.i64_in _ (by omega)
          have hm92 : (m2 : Int) ≤ 202 := by omega
          clear hM2 hL2 hm2 hm2e hn1p hn1q hdp hdq HN9
          go_wp2_with fail
          obtain ⟨wA, hwA⟩ : ∃ x : World, x = wc := ⟨_, rfl⟩
          rw [← hwA] at HM ⊢
          clear hwA
          go_loopw [18] (fun jv wq => ∃ j : Nat, jv = .int .i64 (j : Int) ∧ j ≤ m2 ∧ Below wA.heap.size wA wq) (fun jv _ => m2 - (intOf jv).toNat)
          case atStart => exact ⟨0, rfl, Nat.zero_le _, Below.refl _ _⟩
          case round =>
            obtain ⟨j, rfl, hj2, hbq⟩ := hrel
            have HMJ := hide (HM.out.below hbq)
            have HBQ := hide hbq
            by_cases hjm : j < m2
            · have z1 : decide (j < m2) = true := by simpa using hjm
              have z2 : decide ((j : Int) < (m2 : Int)) = true := by simp; omega
              have z3 : (j : Int) < (m2 : Int) := by omega
              obtain ⟨j1, hj1⟩ : ∃ x, x = j + 1 := ⟨_, rfl⟩
              have wj : IntKind.i64.wrap ((j : Int) + 1) = (j1 : Int) := by rw [show (j : Int) + 1 = (j1 : Int) by omega]; exact IntWalk.i64_in _ (by omega)
              have HGET := hide (obj_get HMJ.out.ob HL.out.good (by omega) (j1 : Int) nm)
              have HJM := hide hjm
              have HJ1 := hide hj1
              by_cases hlm : j < m
              · have y1 : decide (j < m) = true := by simpa using hlm
                have y2 : decide ((j : Int) < (m : Int)) = true := by simp; omega
                have y3 : (j : Int) < (m : Int) := by omega
                obtain ⟨x, hx, m0, _⟩ := HMJ.out.atH hlm
                obtain ⟨y, hy, o0, o1, _, _⟩ := HMJ.out.atV hlm
                have hg := HL.out.at_lt hx hy
                cases x with
                | true =>
                  have HG := hide (show Calls Try.prog 21 #[.pointer (some ⟨b, 0, none⟩), .int .i64 (j1 : Int), .int .i64 nm] wr (fun e w' => e = .returned (.tuple #[.agg #[.int .i64 y.1, .int .i64 y.2], .bool true]) ∧ Below wr.heap.size wr w') from by
                    have := HGET.out
                    unfold getV at this
                    rw [denI_nat, hj1, hg] at this
                    rw [hj1]
                    exact this)
                  obtain ⟨y1', y2'⟩ := y
                  simp only [] at o0 o1 HG
                  clear hx hy hg hlm hjm hj2 hbq hj1 HGET
                  have HC := hide (fun (q : World) (hb : Below wr.heap.size wr q) => (⟨cell_keep m0 hb, cell_keep o0 hb, cell_keep o1 hb⟩ : q.cell? ⟨gB, oB + j, none⟩ = some (.bool true) ∧ q.cell? ⟨gW, oW + j * 2, none⟩ = some (.int .i64 y1') ∧ q.cell? ⟨gW, oW + j * 2 + 1, none⟩ = some (.int .i64 y2')))
                  clear m0 o0 o1
                  as_aux_lemma =>
                    go_upto_region 43 with (go_at_call 21; (with_reducible refine Calls.mono HG.out ?_); rintro r w7 ⟨rfl, b7⟩; have B7 := hide b7; clear b7)
                    have HB7 := hide (B7.out.trans ((below_box w7 (.cells #[.int .i64 y1', .int .i64 y2'] 29)).mono B7.out.size))
                    have HWB := hide (Blk.new w7 29 #[.int .i64 y1', .int .i64 y2'])
                    obtain ⟨W7, hW7⟩ : ∃ x : World, x = w7.alloc (.cells #[.int .i64 y1', .int .i64 y2'] 29) := ⟨_, rfl⟩
                    obtain ⟨wb, hwb⟩ : ∃ n, n = w7.heap.size := ⟨_, rfl⟩
                    rw [← hW7] at HB7 HWB ⊢
                    rw [← hwb] at HWB ⊢
                    clear hW7 hwb
                    have c0 := HWB.out.cell 0
                    have c1 := HWB.out.cell 1
                    obtain ⟨m0, o0, o1⟩ := HC.out W7 HB7.out
                    go_quiet (fail)
                    go_wp2
                    go_roundw
                    case rel => exact ⟨j1, rfl, by have := HJM.out; have := HJ1.out; omega, below_dN (HBQ.out.trans (HB7.out.mono HBQ.out.size)) _⟩
                    case measure => have := HJM.out; have := HJ1.out; simp [intOf]; omega
                | false =>
                  have HG := hide (show Calls Try.prog 21 #[.pointer (some ⟨b, 0, none⟩), .int .i64 (j1 : Int), .int .i64 nm] wr (fun e w' => e = .returned (.tuple #[.agg #[.int .i64 0, .int .i64 0], .bool false]) ∧ Below wr.heap.size wr w') from by
                    have := HGET.out
                    unfold getV at this
                    rw [denI_nat, hj1, hg] at this
                    rw [hj1]
                    exact this)
                  obtain ⟨y1', y2'⟩ := y
                  simp only [] at o0 o1
                  clear hx hy hg hlm hjm hj2 hbq hj1 HGET
                  have HC := hide (fun (q : World) (hb : Below wr.heap.size wr q) => (⟨cell_keep m0 hb, cell_keep o0 hb, cell_keep o1 hb⟩ : q.cell? ⟨gB, oB + j, none⟩ = some (.bool false) ∧ q.cell? ⟨gW, oW + j * 2, none⟩ = some (.int .i64 y1') ∧ q.cell? ⟨gW, oW + j * 2 + 1, none⟩ = some (.int .i64 y2')))
                  clear m0 o0 o1
                  as_aux_lemma =>
                    go_upto_region 43 with (go_at_call 21; (with_reducible refine Calls.mono HG.out ?_); rintro r w7 ⟨rfl, b7⟩; have B7 := hide b7; clear b7)
                    have HB7 := hide (B7.out.trans ((below_box w7 (.cells #[.int .i64 0, .int .i64 0] 29)).mono B7.out.size))
                    have HWB := hide (Blk.new w7 29 #[.int .i64 0, .int .i64 0])
                    obtain ⟨W7, hW7⟩ : ∃ x : World, x = w7.alloc (.cells #[.int .i64 0, .int .i64 0] 29) := ⟨_, rfl⟩
                    obtain ⟨wb, hwb⟩ : ∃ n, n = w7.heap.size := ⟨_, rfl⟩
                    rw [← hW7] at HB7 HWB ⊢
                    rw [← hwb] at HWB ⊢
                    clear hW7 hwb
                    have c0 := HWB.out.cell 0
                    have c1 := HWB.out.cell 1
                    obtain ⟨m0, o0, o1⟩ := HC.out W7 HB7.out
                    go_quiet (fail)
                    go_wp2
                    go_roundw
                    case rel => exact ⟨j1, rfl, by have := HJM.out; have := HJ1.out; omega, below_dN (HBQ.out.trans (HB7.out.mono HBQ.out.size)) _⟩
                    case measure => have := HJM.out; have := HJ1.out; simp [intOf]; omega
              · have y1 : decide (j < m) = false := by simpa using hlm
                have y2 : decide ((j : Int) < (m : Int)) = false := by simp; omega
                have y3 : ¬ (j : Int) < (m : Int) := by omega
                have hg := HL.out.at_ge (k := j) (by rw [HMJ.out.hn]; omega)
                have HG := hide (show Calls Try.prog 21 #[.pointer (some ⟨b, 0, none⟩), .int .i64 (j1 : Int), .int .i64 nm] wr (fun e w' => e = .returned (.tuple #[.agg #[.int .i64 0, .int .i64 0], .bool false]) ∧ Below wr.heap.size wr w') from by
                  have := HGET.out
                  unfold getV at this
                  rw [denI_nat, hj1, hg] at this
                  rw [hj1]
                  exact this)
                clear hg hlm hjm hj2 hbq hj1 HGET
                as_aux_lemma =>
                  go_upto_region 43 with (go_at_call 21; (with_reducible refine Calls.mono HG.out ?_); rintro r w7 ⟨rfl, b7⟩; have B7 := hide b7; clear b7)
                  have HB7 := hide (B7.out.trans ((below_box w7 (.cells #[.int .i64 0, .int .i64 0] 29)).mono B7.out.size))
                  have HWB := hide (Blk.new w7 29 #[.int .i64 0, .int .i64 0])
                  obtain ⟨W7, hW7⟩ : ∃ x : World, x = w7.alloc (.cells #[.int .i64 0, .int .i64 0] 29) := ⟨_, rfl⟩
                  obtain ⟨wb, hwb⟩ : ∃ n, n = w7.heap.size := ⟨_, rfl⟩
                  rw [← hW7] at HB7 HWB ⊢
                  rw [← hwb] at HWB ⊢
                  clear hW7 hwb
                  have c0 := HWB.out.cell 0
                  have c1 := HWB.out.cell 1
                  go_quiet (fail)
                  go_wp2
                  go_roundw
                  case rel => exact ⟨j1, rfl, by have := HJM.out; have := HJ1.out; omega, below_dN (HBQ.out.trans (HB7.out.mono HBQ.out.size)) _⟩
                  case measure => have := HJM.out; have := HJ1.out; simp [intOf]; omega
            · have z1 : decide (j < m2) = false := by simpa using hjm
              have z2 : decide ((j : Int) < (m2 : Int)) = false := by simp; omega
              have z3 : ¬ (j : Int) < (m2 : Int) := by omega
              have HB9 := hide hbq
              clear hjm hj2 hbq
              as_aux_lemma =>
                go_wp2
                go_roundw
                case rel =>
                  exact ⟨k + 1, m, P2, H2, V2, by go_num, HLT.out, HMJ.out, HL.out, HN2.out⟩
                case measure => have := HLT.out; simp [intOf]; omega
      · have w1 : decide (k < nn) = false := by simpa using hlt
        have w2 : decide ((k : Int) < (nn : Int)) = false := by simp; omega
        have w3 : ¬ (k : Int) < (nn : Int) := by omega
        have HBE := hide hM.ob.bel
        clear hM hL hlt hk hn
        as_aux_lemma =>
          go_wp2
          go_ret
          exact ⟨rfl, HBE.out⟩
end Go.Proofs.Ytgiogmbopiblmaa
