/- A part of the proof that the law ParsePrints is true of every input: models of the functions that the law reaches, and what holds of them. -/
import Derived.Shelf.Strings.Builder1
import Derived.Shelf.Strings.Builder2
import Derived.Shelf.Strings.Trim
import Derived.Shelf.Small.Utf8
import Derived.Shelf.Small.Strs
import Derived.Shelf.Small.Wraps
import Derived.Shelf.Strings.BuilderF
import Derived.Shelf.Utf8.RuneCount
import Derived.Shelf.Strings.Search1
import Derived.Shelf.Strings.Search2
import Derived.Shelf.Strings.Search3
import Derived.Shelf.Strings.Cut
import Derived.Shelf.Strings.Count
import Derived.Shelf.LaysM
import Derived.Shelf.Strings.Shaped
import Derived.Shelf.Strings.Prefix
import Derived.Shelf.Strings.Split
import Derived.Shelf.Strings.SplitShaped
import Derived.Shelf.Unicode.Decode
import Derived.Shelf.Strings.Runes
import Derived.Shelf.Strings.RuneCount
import Derived.Shelf.Strings.AsciiSet
import Derived.Shelf.Strings.Explode
import Derived.Shelf.Bits.Mul64
import Derived.Shelf.Strings.Repeat
import Derived.Shelf.Unicode.DecodeSlow
import Derived.Shelf.Unicode.DecodeAny
import Derived.Shelf.Unicode.DecodeLast
import Derived.Shelf.Strings.FieldsFuncAny
import Derived.Shelf.Strings.FieldsFuncGrows
import Derived.Test.YtncgifjccpngfaaGreatDoorProg
import Derived.Test.YtncgifjccpngfaaGreatDoorRows
import Derived.Lay
import Derived.LaidHandle
import Derived.KernelRfl
import Derived.WalkKit
import Derived.LaidEql
import Derived.Stop.Asserts
import Derived.RowKitTokens
import Derived.Lib.Walk
import Derived.Test.YtncgifjccpngfaaGreatDoorChecked
import Derived.Lib.FieldsP
import Derived.Lib.SpaceUEq
import Derived.Lib.DecodeN
import Derived.Test.YtncgifjccpngfaaGreatDoorPenKit0
import Derived.Test.YtncgifjccpngfaaGreatDoorPenKit1
import Derived.Test.YtncgifjccpngfaaGreatDoorPenKit2
import Derived.Test.YtncgifjccpngfaaGreatDoorPenKit3
namespace Go.Proofs.Pen
open Go Go.Proofs

theorem iter_count {σ : Type} {t : σ → T (Ex × σ)} (st : Nat → σ) {e : Ex} {z : σ} (he : e ≠ .normal) : ∀ (n k m : Nat), (∀ i, k ≤ i → i < k + n → (t (st i)).run = some (.normal, st (i + 1))) → (t (st (k + n))).run = some (e, z) → n < m → (iterT t m (st k)).run = some (e, z)
  | n, k, 0, _, _, hm => absurd hm (Nat.not_lt_zero _)
  | 0, k, m + 1, _, h2, _ => by
    rw [Nat.add_zero] at h2
    rw [iter_step h2]
    cases e <;> first | rfl | exact absurd rfl he
  | n + 1, k, m + 1, h1, h2, hm => by
    rw [iter_step (h1 k (Nat.le_refl _) (by omega))]
    exact iter_count st he n (k + 1) m (fun i a b => h1 i (by omega) (by omega)) (by rw [show k + 1 + n = k + (n + 1) by omega]; exact h2) (by omega)

theorem lget_nat {α : Type} (l : List α) {k : Nat} (h : k < l.length) : lget l (k : Int) = some l[k] := by
  unfold lget
  rw [if_neg (by omega), Int.toNat_natCast, List.getElem?_eq_getElem h]

theorem take_all {α : Type} (l : List α) (v : α) : List.take (l.length + 1) (List.take l.length l ++ [v]) = l ++ [v] := by
  rw [List.take_length, List.take_of_length_le (by simp)]

theorem W_succ {k : Nat} (h : k < 100000) : W ((k : Int) + 1) = ((k + 1 : Nat) : Int) := by
  rw [W_id (by omega) (by omega)]; omega

theorem room {n c : Nat} (h : n < 100000) (hc : c ≤ 1000) : (n + 1) * c ≤ most := by
  have : (n + 1) * c ≤ 100000 * 1000 := Nat.mul_le_mul (by omega) hc
  unfold most; omega
end Go.Proofs.Pen

namespace Go.Proofs
open Go.Shelf
def Tryz.lays162_ren : Go.Shelf.Ren := ⟨fun | 162 => 67 | 232 => 89 | 227 => 90 | 234 => 91 | 236 => 92 | 228 => 104 | 271 => 105 | 151 => 106 | 120 => 118 | 197 => 108 | 152 => 119 | 260 => 120 | 137 => 130 | 119 => 131 | 224 => 123 | 225 => 122 | 217 => 121 | 266 => 132 | n => n, fun | 9 => 9 | 4 => 4 | 3 => 3 | 5 => 5 | 117 => 163 | 116 => 162 | 0 => 0 | 124 => 166 | 21 => 21 | 105 => 182 | 46 => 187 | 119 => 208 | 139 => 211 | 138 => 210 | n => n, fun | 3 => 2 | 4 => 3 | n => n⟩
theorem Tryz.lays162 : Go.Proofs.Lays.n162 Tryz.prog Tryz.lays162_ren := {
  mixed := by kernel_rfl
  f119 := Tryz.func131.trans (congrArg some (by kernel_rfl))
  f120 := Tryz.func118.trans (congrArg some (by kernel_rfl))
  f137 := Tryz.func130.trans (congrArg some (by kernel_rfl))
  f151 := Tryz.func106.trans (congrArg some (by kernel_rfl))
  f152 := Tryz.func119.trans (congrArg some (by kernel_rfl))
  f162 := Tryz.func67.trans (congrArg some (by kernel_rfl))
  f197 := Tryz.func108.trans (congrArg some (by kernel_rfl))
  f217 := Tryz.func121.trans (congrArg some (by kernel_rfl))
  f224 := Tryz.func123.trans (congrArg some (by kernel_rfl))
  f225 := Tryz.func122.trans (congrArg some (by kernel_rfl))
  f227 := Tryz.func90.trans (congrArg some (by kernel_rfl))
  f228 := Tryz.func104.trans (congrArg some (by kernel_rfl))
  f232 := Tryz.func89.trans (congrArg some (by kernel_rfl))
  f234 := Tryz.func91.trans (congrArg some (by kernel_rfl))
  f236 := Tryz.func92.trans (congrArg some (by kernel_rfl))
  f260 := Tryz.func120.trans (congrArg some (by kernel_rfl))
  f266 := Tryz.func132.trans (congrArg some (by kernel_rfl))
  f271 := Tryz.func105.trans (congrArg some (by kernel_rfl))
  t0 := Tryz.underlying0
  a0 := Tryz.isAgg0
  z0 := Tryz.sizeOf0
  v0 := Tryz.zeroValue0
  t3 := Tryz.underlying3
  a3 := Tryz.isAgg3
  z3 := Tryz.sizeOf3
  v3 := Tryz.zeroValue3
  t4 := Tryz.underlying4
  a4 := Tryz.isAgg4
  z4 := Tryz.sizeOf4
  v4 := Tryz.zeroValue4
  t5 := Tryz.underlying5
  a5 := Tryz.isAgg5
  z5 := Tryz.sizeOf5
  v5 := Tryz.zeroValue5
  t9 := Tryz.underlying9
  a9 := Tryz.isAgg9
  z9 := Tryz.sizeOf9
  v9 := Tryz.zeroValue9
  t21 := Tryz.underlying21
  a21 := Tryz.isAgg21
  z21 := Tryz.sizeOf21
  v21 := Tryz.zeroValue21
  t46 := Tryz.underlying187
  a46 := Tryz.isAgg187
  z46 := Tryz.sizeOf187
  v46 := Tryz.zeroValue187
  t105 := Tryz.underlying182
  a105 := Tryz.isAgg182
  z105 := Tryz.sizeOf182
  v105 := Tryz.zeroValue182
  t116 := Tryz.underlying162
  a116 := Tryz.isAgg162
  z116 := Tryz.sizeOf162
  t117 := Tryz.underlying163
  a117 := Tryz.isAgg163
  z117 := Tryz.sizeOf163
  v117 := Tryz.zeroValue163
  t119 := Tryz.underlying208
  a119 := Tryz.isAgg208
  z119 := Tryz.sizeOf208
  t124 := Tryz.underlying166
  a124 := Tryz.isAgg166
  z124 := Tryz.sizeOf166
  v124 := Tryz.zeroValue166
  t138 := Tryz.underlying210
  a138 := Tryz.isAgg210
  z138 := Tryz.sizeOf210
  v138 := Tryz.zeroValue210
  t139 := Tryz.underlying211
  a139 := Tryz.isAgg211
  z139 := Tryz.sizeOf211
  v139 := Tryz.zeroValue211
  g3 := by kernel_rfl
  g4 := by kernel_rfl }
open Go.RowKit in
theorem Tryz.strings_TrimRight_one (s : ByteArray) (c : UInt8) (hc : c.toNat < 128) (w : World) (hs : s.size ≤ 9223372036854775807) :
    Calls Tryz.prog 67 #[.string s, .string ⟨#[c]⟩] w fun e w' => e = .returned (.string ⟨(Lib.trimRightB s.data.toList c).toArray⟩) ∧ w' = w := Any.strings_TrimRight_one Tryz.lays162 s c hc w hs
def Tryz.lays103_ren : Go.Shelf.Ren := ⟨fun | 103 => 97 | 210 => 111 | 206 => 125 | n => n, fun | 9 => 9 | 4 => 4 | 24 => 176 | 3 => 3 | n => n, fun | n => n⟩
theorem Tryz.lays103 : Go.Proofs.Lays.n103 Tryz.prog Tryz.lays103_ren := {
  mixed := by kernel_rfl
  f103 := Tryz.func97.trans (congrArg some (by kernel_rfl))
  f206 := Tryz.func125.trans (congrArg some (by kernel_rfl))
  f210 := Tryz.func111.trans (congrArg some (by kernel_rfl))
  t3 := Tryz.underlying3
  a3 := Tryz.isAgg3
  z3 := Tryz.sizeOf3
  v3 := Tryz.zeroValue3
  t4 := Tryz.underlying4
  a4 := Tryz.isAgg4
  z4 := Tryz.sizeOf4
  v4 := Tryz.zeroValue4
  t9 := Tryz.underlying9
  a9 := Tryz.isAgg9
  z9 := Tryz.sizeOf9
  v9 := Tryz.zeroValue9
  t24 := Tryz.underlying176
  a24 := Tryz.isAgg176
  z24 := Tryz.sizeOf176
  v24 := Tryz.zeroValue176 }
open Go.RowKit in
theorem Tryz.strings_CutPrefix (s p : ByteArray) (w : World) :
    Calls Tryz.prog 97 #[.string s, .string p] w fun e w' => e = .returned (.tuple #[.string ⟨(Lib.trimPrefix s.data.toList p.data.toList).toArray⟩, .bool (Lib.hasPrefix s.data.toList p.data.toList)]) ∧ w' = w := Any.strings_CutPrefix Tryz.lays103 s p w
def Tryz.lays219_ren : Go.Shelf.Ren := ⟨fun | 219 => 110 | 217 => 121 | 225 => 122 | 224 => 123 | 267 => 124 | 266 => 132 | 314 => 133 | n => n, fun | 9 => 9 | 3 => 3 | 4 => 4 | 5 => 5 | 46 => 187 | 146 => 202 | 51 => 201 | n => n, fun | 1 => 1 | n => n⟩
theorem Tryz.lays219 : Go.Proofs.Lays.n219 Tryz.prog Tryz.lays219_ren := {
  mixed := by kernel_rfl
  f217 := Tryz.func121.trans (congrArg some (by kernel_rfl))
  f219 := Tryz.func110.trans (congrArg some (by kernel_rfl))
  f224 := Tryz.func123.trans (congrArg some (by kernel_rfl))
  f225 := Tryz.func122.trans (congrArg some (by kernel_rfl))
  f266 := Tryz.func132.trans (congrArg some (by kernel_rfl))
  f267 := Tryz.func124.trans (congrArg some (by kernel_rfl))
  f314 := Tryz.func133.trans (congrArg some (by kernel_rfl))
  t3 := Tryz.underlying3
  a3 := Tryz.isAgg3
  z3 := Tryz.sizeOf3
  v3 := Tryz.zeroValue3
  t4 := Tryz.underlying4
  a4 := Tryz.isAgg4
  z4 := Tryz.sizeOf4
  v4 := Tryz.zeroValue4
  t5 := Tryz.underlying5
  a5 := Tryz.isAgg5
  z5 := Tryz.sizeOf5
  v5 := Tryz.zeroValue5
  t9 := Tryz.underlying9
  a9 := Tryz.isAgg9
  z9 := Tryz.sizeOf9
  v9 := Tryz.zeroValue9
  t46 := Tryz.underlying187
  a46 := Tryz.isAgg187
  z46 := Tryz.sizeOf187
  v46 := Tryz.zeroValue187
  t51 := Tryz.underlying201
  a51 := Tryz.isAgg201
  z51 := Tryz.sizeOf201
  v51 := Tryz.zeroValue201
  t146 := Tryz.underlying202
  a146 := Tryz.isAgg202
  z146 := Tryz.sizeOf202
  v146 := Tryz.zeroValue202
  g1 := by kernel_rfl }
open Go.RowKit Go.Lib in
theorem Tryz.stringslite_Index_one (s : ByteArray) (c : UInt8) (w : World) :
    Calls Tryz.prog 110 #[.string s, .string ⟨#[c]⟩] w fun e w' => e = .returned (.int .i64 (Lib.indexByte s.data.toList c)) ∧ w' = w := Any.stringslite_Index_one Tryz.lays219 s c w
def Tryz.lays138_ren : Go.Shelf.Ren := ⟨fun | 138 => 94 | 195 => 107 | 218 => 109 | 143 => 95 | 219 => 110 | 217 => 121 | 225 => 122 | 224 => 123 | 267 => 124 | 266 => 132 | 314 => 133 | n => n, fun | 9 => 9 | 3 => 3 | 4 => 4 | 5 => 5 | 0 => 0 | 46 => 187 | 146 => 202 | 51 => 201 | n => n, fun | 1 => 1 | n => n⟩
theorem Tryz.lays138 : Go.Proofs.Lays.n138 Tryz.prog Tryz.lays138_ren := {
  mixed := by kernel_rfl
  f138 := Tryz.func94.trans (congrArg some (by kernel_rfl))
  f143 := Tryz.func95.trans (congrArg some (by kernel_rfl))
  f195 := Tryz.func107.trans (congrArg some (by kernel_rfl))
  f217 := Tryz.func121.trans (congrArg some (by kernel_rfl))
  f218 := Tryz.func109.trans (congrArg some (by kernel_rfl))
  f219 := Tryz.func110.trans (congrArg some (by kernel_rfl))
  f224 := Tryz.func123.trans (congrArg some (by kernel_rfl))
  f225 := Tryz.func122.trans (congrArg some (by kernel_rfl))
  f266 := Tryz.func132.trans (congrArg some (by kernel_rfl))
  f267 := Tryz.func124.trans (congrArg some (by kernel_rfl))
  f314 := Tryz.func133.trans (congrArg some (by kernel_rfl))
  t0 := Tryz.underlying0
  a0 := Tryz.isAgg0
  z0 := Tryz.sizeOf0
  v0 := Tryz.zeroValue0
  t3 := Tryz.underlying3
  a3 := Tryz.isAgg3
  z3 := Tryz.sizeOf3
  v3 := Tryz.zeroValue3
  t4 := Tryz.underlying4
  a4 := Tryz.isAgg4
  z4 := Tryz.sizeOf4
  v4 := Tryz.zeroValue4
  t5 := Tryz.underlying5
  a5 := Tryz.isAgg5
  z5 := Tryz.sizeOf5
  v5 := Tryz.zeroValue5
  t9 := Tryz.underlying9
  a9 := Tryz.isAgg9
  z9 := Tryz.sizeOf9
  v9 := Tryz.zeroValue9
  t46 := Tryz.underlying187
  a46 := Tryz.isAgg187
  z46 := Tryz.sizeOf187
  v46 := Tryz.zeroValue187
  t51 := Tryz.underlying201
  a51 := Tryz.isAgg201
  z51 := Tryz.sizeOf201
  v51 := Tryz.zeroValue201
  t146 := Tryz.underlying202
  a146 := Tryz.isAgg202
  z146 := Tryz.sizeOf202
  v146 := Tryz.zeroValue202
  g1 := by kernel_rfl }
open Go.RowKit Go.Lib in
theorem Tryz.strings_Count_one (s : ByteArray) (c : UInt8) (w : World) :
    Calls Tryz.prog 94 #[.string s, .string ⟨#[c]⟩] w fun e w' => e = .returned (.int .i64 (Lib.countByte s.data.toList c)) ∧ w' = w := Any.strings_Count_one Tryz.lays138 s c w
def Tryz.lays105_ren : Go.Shelf.Ren := ⟨fun | 105 => 98 | 212 => 112 | 99 => 113 | 165 => 114 | 166 => 115 | 170 => 116 | 169 => 117 | 263 => 126 | 264 => 127 | 206 => 125 | 240 => 128 | 241 => 129 | 276 => 134 | 277 => 135 | n => n, fun | 9 => 9 | 3 => 3 | 4 => 4 | 20 => 20 | 0 => 0 | 46 => 187 | 109 => 188 | 5 => 5 | 72 => 193 | 76 => 195 | 51 => 201 | 146 => 202 | 53 => 204 | 148 => 205 | 70 => 191 | 37 => 32 | 75 => 43 | 127 => 207 | 164 => 114 | 80 => 198 | n => n, fun | n => n⟩
theorem Tryz.lays105 : Go.Proofs.Lays.n105 Tryz.prog Tryz.lays105_ren := {
  mixed := by kernel_rfl
  f99 := Tryz.func113.trans (congrArg some (by kernel_rfl))
  f105 := Tryz.func98.trans (congrArg some (by kernel_rfl))
  f165 := Tryz.func114.trans (congrArg some (by kernel_rfl))
  f166 := Tryz.func115.trans (congrArg some (by kernel_rfl))
  f169 := Tryz.func117.trans (congrArg some (by kernel_rfl))
  f170 := Tryz.func116.trans (congrArg some (by kernel_rfl))
  f206 := Tryz.func125.trans (congrArg some (by kernel_rfl))
  f212 := Tryz.func112.trans (congrArg some (by kernel_rfl))
  f240 := Tryz.func128.trans (congrArg some (by kernel_rfl))
  f241 := Tryz.func129.trans (congrArg some (by kernel_rfl))
  f263 := Tryz.func126.trans (congrArg some (by kernel_rfl))
  f264 := Tryz.func127.trans (congrArg some (by kernel_rfl))
  f276 := Tryz.func134.trans (congrArg some (by kernel_rfl))
  f277 := Tryz.func135.trans (congrArg some (by kernel_rfl))
  t0 := Tryz.underlying0
  a0 := Tryz.isAgg0
  z0 := Tryz.sizeOf0
  v0 := Tryz.zeroValue0
  t3 := Tryz.underlying3
  a3 := Tryz.isAgg3
  z3 := Tryz.sizeOf3
  v3 := Tryz.zeroValue3
  t4 := Tryz.underlying4
  a4 := Tryz.isAgg4
  z4 := Tryz.sizeOf4
  v4 := Tryz.zeroValue4
  t5 := Tryz.underlying5
  a5 := Tryz.isAgg5
  z5 := Tryz.sizeOf5
  v5 := Tryz.zeroValue5
  t9 := Tryz.underlying9
  a9 := Tryz.isAgg9
  z9 := Tryz.sizeOf9
  v9 := Tryz.zeroValue9
  t20 := Tryz.underlying20
  a20 := Tryz.isAgg20
  z20 := Tryz.sizeOf20
  v20 := Tryz.zeroValue20
  t37 := Tryz.underlying32
  a37 := Tryz.isAgg32
  z37 := Tryz.sizeOf32
  v37 := Tryz.zeroValue32
  t46 := Tryz.underlying187
  a46 := Tryz.isAgg187
  z46 := Tryz.sizeOf187
  v46 := Tryz.zeroValue187
  t51 := Tryz.underlying201
  a51 := Tryz.isAgg201
  z51 := Tryz.sizeOf201
  v51 := Tryz.zeroValue201
  t53 := Tryz.underlying204
  a53 := Tryz.isAgg204
  z53 := Tryz.sizeOf204
  v53 := Tryz.zeroValue204
  t70 := Tryz.underlying191
  a70 := Tryz.isAgg191
  z70 := Tryz.sizeOf191
  v70 := Tryz.zeroValue191
  t72 := Tryz.underlying193
  a72 := Tryz.isAgg193
  z72 := Tryz.sizeOf193
  v72 := Tryz.zeroValue193
  t75 := Tryz.underlying43
  a75 := Tryz.isAgg43
  z75 := Tryz.sizeOf43
  v75 := Tryz.zeroValue43
  t76 := Tryz.underlying195
  a76 := Tryz.isAgg195
  z76 := Tryz.sizeOf195
  v76 := Tryz.zeroValue195
  t109 := Tryz.underlying188
  a109 := Tryz.isAgg188
  z109 := Tryz.sizeOf188
  v109 := Tryz.zeroValue188
  t127 := Tryz.underlying207
  a127 := Tryz.isAgg207
  z127 := Tryz.sizeOf207
  v127 := Tryz.zeroValue207
  t146 := Tryz.underlying202
  a146 := Tryz.isAgg202
  z146 := Tryz.sizeOf202
  v146 := Tryz.zeroValue202
  t148 := Tryz.underlying205
  a148 := Tryz.isAgg205
  z148 := Tryz.sizeOf205
  v148 := Tryz.zeroValue205
  t164 := Tryz.underlying114
  a164 := Tryz.isAgg114
  z164 := Tryz.sizeOf114
  v164 := Tryz.zeroValue114 }
theorem Tryz.Builder_Extra_105 : Builder.Extra Tryz.prog Tryz.lays105_ren := {
  sizeBuilder := by kernel_rfl
  liesBuilder := by kernel_rfl
  t5 := Tryz.underlying5
  a5 := Tryz.isAgg5
  z5 := Tryz.sizeOf5
  v5 := Tryz.zeroValue5
  infoByte := by kernel_rfl
  cellsByte := by kernel_rfl
  sizeByte := by kernel_rfl
  neB5 := by decide }
open Go.RowKit Go.Lib in
theorem Tryz.strings_Repeat (s : ByteArray) (c : Nat) (w : World) (hc : c ≤ 9223372036854775807) (hlen : s.size * c ≤ 140737488355328) :
    Calls Tryz.prog 98 #[.string s, .int .i64 c] w fun e w' => e = .returned (.string ⟨(Lib.repeatL s.data.toList c).toArray⟩) ∧ Below w.heap.size w w' := Any.strings_Repeat Tryz.lays105 Tryz.Builder_Extra_105 s c w hc hlen
def Tryz.lays229_ren : Go.Shelf.Ren := ⟨fun | 229 => 74 | n => n, fun | 9 => 9 | 40 => 137 | 31 => 39 | 152 => 173 | 3 => 3 | 0 => 0 | 4 => 4 | 21 => 21 | 154 => 175 | n => n, fun | n => n⟩
theorem Tryz.lays229 : Go.Proofs.Lays.n229 Tryz.prog Tryz.lays229_ren := {
  mixed := by kernel_rfl
  f229 := Tryz.func74.trans (congrArg some (by kernel_rfl))
  t0 := Tryz.underlying0
  a0 := Tryz.isAgg0
  z0 := Tryz.sizeOf0
  v0 := Tryz.zeroValue0
  t3 := Tryz.underlying3
  a3 := Tryz.isAgg3
  z3 := Tryz.sizeOf3
  v3 := Tryz.zeroValue3
  t4 := Tryz.underlying4
  a4 := Tryz.isAgg4
  z4 := Tryz.sizeOf4
  v4 := Tryz.zeroValue4
  t9 := Tryz.underlying9
  a9 := Tryz.isAgg9
  z9 := Tryz.sizeOf9
  v9 := Tryz.zeroValue9
  t21 := Tryz.underlying21
  a21 := Tryz.isAgg21
  z21 := Tryz.sizeOf21
  v21 := Tryz.zeroValue21
  t31 := Tryz.underlying39
  a31 := Tryz.isAgg39
  z31 := Tryz.sizeOf39
  v31 := Tryz.zeroValue39
  t40 := Tryz.underlying137
  a40 := Tryz.isAgg137
  z40 := Tryz.sizeOf137
  v40 := Tryz.zeroValue137
  t152 := Tryz.underlying173
  a152 := Tryz.isAgg173
  z152 := Tryz.sizeOf173
  v152 := Tryz.zeroValue173
  t154 := Tryz.underlying175
  a154 := Tryz.isAgg175
  z154 := Tryz.sizeOf175
  v154 := Tryz.zeroValue175 }
open Go.RowKit Go.Lib in
theorem Tryz.strings_FieldsFunc (g : Nat) (lb : Array Value) (eg : ∀ args w, (callFunc g args).run Tryz.prog w = .ok (.enter g args) w) (p : Nat → Bool) (s : ByteArray) (w : World) (hs : s.size ≤ 4294967296) (hp : PredAt Tryz.prog g lb encR p w) :
    Calls Tryz.prog 74 #[.string s, .func (.func g) #[] lb] w fun e w' => ∃ A, e = .returned (.slice (some ⟨A, 0, none⟩) (Lib.goFieldsP p s).length (Lib.goFieldsP p s).length) ∧ w.heap.size ≤ A ∧
      w'.ownsRow w.heap.size 9 1 (.slice (some ⟨A, 0, none⟩) (Lib.goFieldsP p s).length (Lib.goFieldsP p s).length) (Lib.goFieldsP p s).length ((Lib.goFieldsP p s).map Value.string) ∧ Below w.heap.size w w' := Any.strings_FieldsFunc Tryz.lays229 g lb eg p s w hs hp (by kernel_rfl) (by kernel_rfl)
end Go.Proofs

namespace Go.Proofs.Pen
open Go Go.Proofs Go.ChangeShapes Go.WideShapes Go.RowKit Go.Proofs.YtncgifjccpngfaaGreatDoor

def doorL : List (String × DataW Unit) := [("unicode/utf8.acceptRanges", Rows.laid_unicode_utf8_acceptRanges), ("errors.errorType", .iface "internal/reflectlite.rtype" (.agg [.ptr (.lit (.string [101, 114, 114, 111, 114]))])), ("unicode/utf8.first", Rows.laid_unicode_utf8_first)]
def doorPlain : List (String × DataW Unit) := [("unicode/utf8.acceptRanges", Rows.laid_unicode_utf8_acceptRanges), ("unicode/utf8.first", Rows.laid_unicode_utf8_first)]

theorem glob_laidL {P : Program} {L : List (String × DataW Unit)} (hL : (L.filter fun x => x.2.handleName?.isSome) = [("errors.errorType", .iface "internal/reflectlite.rtype" (.agg [.ptr (.lit (.string [101, 114, 114, 111, 114]))]))]) {n g rt ty : Nat} (et : P.globalNamed "errors.errorType" = some g) (hrt : (P.cutTypes.find? (·.1 == "internal/reflectlite.rtype")).map (·.2) = some rt)
    (hone : ((List.range n).filter fun t => P.rowNamed t [101, 114, 114, 111, 114]) = [ty]) (hsize : P.types.size = n) {W : World}
    (h : laidMetH P L W) : ∀ a u, globOf P a = some u → W.cell? a = some u := by
  unfold laidMetH at h
  rw [hL] at h
  dsimp only at h
  obtain ⟨name, u, ty', e1, e2, e3, e4, e5⟩ := h.2 _ (List.mem_singleton.2 rfl)
  have en : name = [101, 114, 114, 111, 114] := (Option.some.inj e1).symm
  subst en
  obtain rfl := Option.some.inj (hrt.symm.trans e2)
  have hm : ty' ∈ (List.range n).filter fun t => P.rowNamed t [101, 114, 114, 111, 114] := List.mem_filter.2 ⟨List.mem_range.2 (by rw [← hsize]; exact e3), e4⟩
  rw [hone] at hm
  obtain rfl := List.mem_singleton.1 hm
  have hc := World.var?_cell et e5 0
  have hf : (List.range P.types.size).find? (fun t => P.rowNamed t [101, 114, 114, 111, 114]) = some ty' := by
    rw [hsize, ← List.head?_filter, hone]; rfl
  intro a v hv
  unfold globOf at hv
  rw [et, hrt, hf] at hv
  dsimp only at hv
  split at hv
  · rename_i ha
    subst ha
    rw [← hv]
    simpa using hc
  · cases hv

theorem door_glob : ∀ W, laidMetH Tryz.prog doorL W → ∀ a u, globOf Tryz.prog a = some u → W.cell? a = some u := fun _ h =>
  glob_laidL (L := doorL) (by kernel_rfl) (n := 241) (g := 0) (rt := 149) (ty := 43) (by kernel_rfl) (by kernel_rfl) (by kernel_rfl) (by kernel_rfl) h

theorem door_globOf : globOf Tryz.prog ⟨0, 0, none⟩ = some (.iface 149 (.agg #[.pointer (some ⟨4, 43, none⟩)])) := by kernel_rfl

noncomputable def doorBase (os : Os) : World :=
  let w0 := World.holding Tryz.prog os ⟨#[], #[], []⟩
  { w0 with heap := w0.heap.modify 0 fun
      | .cells _ t frozen => .cells #[.iface 149 (.agg #[.pointer (some ⟨4, 43, none⟩)])] t frozen
      | o => o }
noncomputable def doorWorld (os : Os) : World := (doorBase os).layVars Tryz.prog doorPlain
theorem doorWorld_met (os : Os) (args : Array Value) : laidMetH Tryz.prog doorL ((doorWorld os).forCall (fun _ _ => 0) ⟨#[], args, []⟩).memory := by
  refine laidMetH_of_parts ?_ (by kernel_rfl)
  have h : (doorL.filter fun x => x.2.handleName?.isNone) = doorPlain := by kernel_rfl
  rw [h]
  have e1 : (doorPlain.filter fun x => (doorPlain.map (·.1)).contains x.1) = doorPlain := by kernel_rfl
  have e2 : (doorPlain.filter fun x => !(doorPlain.map (·.1)).contains x.1) = [] := by kernel_rfl
  have h : laidMet Tryz.prog doorPlain (doorWorld os) := laidMet_layVars (w0 := doorBase os) (doorPlain.map (·.1)) [] (by rw [e1]; rfl) (by rw [e1]; kernel_rfl) (by rw [e1]; kernel_rfl) (by rw [e2]; exact LaidIn.none)
  exact h.of_heap (by simp [World.memory, World.forCall, Input.heap])
end Go.Proofs.Pen

namespace Go.Proofs.Pen.As
open Go Go.Proofs Go.RowKit Go.Extern.Stop Go.Stop Go.Extern Go.Proofs.YtncgifjccpngfaaGreatDoor

theorem as_nil (t : Value) (w : World) : Calls Tryz.prog 34 #[.nilIface, t] w fun e w' => e = .returned (.bool false) ∧ w' = w := by
  go_enter Tryz.func34, Tryz.ntmps34
  go_wp2
  go_ret
  exact ⟨rfl, rfl⟩

abbrev vl (T : Nat) (a : Addr) (f : Int) : Value := .agg #[.pointer (some ⟨4, T, none⟩), .pointer (some a), .int .u64 f]
abbrev ty (T : Nat) : Value := .iface 149 (.agg #[.pointer (some ⟨4, T, none⟩)])

theorem valueOf82 (t : Addr) (w : World) : (ReflectliteValue.unpack (.iface 88 (.pointer (some t)))).run Tryz.prog w
    = .ok (vl 88 ⟨w.heap.size, 0, none⟩ 150) (w.alloc (.cells #[.pointer (some t)] 88)) := by kernel_rfl
theorem valueOf83 (t : Addr) (w : World) : (ReflectliteValue.unpack (.iface 99 (.pointer (some t)))).run Tryz.prog w
    = .ok (vl 99 ⟨w.heap.size, 0, none⟩ 150) (w.alloc (.cells #[.pointer (some t)] 99)) := by kernel_rfl
theorem type82 (a : Addr) (w : World) : (ReflectliteValue.methodAny (ReflectliteValue.valueError "reflectlite.Value.Type" 0) (fun t _ _ _ => ReflectliteType.toType t) #[vl 88 a 150]).run Tryz.prog w = .ok (ty 88) w := by kernel_rfl
theorem type83 (a : Addr) (w : World) : (ReflectliteValue.methodAny (ReflectliteValue.valueError "reflectlite.Value.Type" 0) (fun t _ _ _ => ReflectliteType.toType t) #[vl 99 a 150]).run Tryz.prog w = .ok (ty 99) w := by kernel_rfl
theorem methodKind (h : Value) (w : World) : (Go.method 341 149 (.agg #[h]) "Kind").run Tryz.prog w = .ok (150, h) w := by kernel_rfl
theorem methodElem (h : Value) (w : World) : (Go.method 341 149 (.agg #[h]) "Elem").run Tryz.prog w = .ok (163, .agg #[h]) w := by kernel_rfl
theorem methodImplements (h : Value) (w : World) : (Go.method 341 149 (.agg #[h]) "Implements").run Tryz.prog w = .ok (164, .agg #[h]) w := by kernel_rfl
theorem methodAssignableTo (h : Value) (w : World) : (Go.method 341 149 (.agg #[h]) "AssignableTo").run Tryz.prog w = .ok (161, .agg #[h]) w := by kernel_rfl
theorem kind82 (w : World) : ((ReflectliteType.abiMethod fun t => (fun a : Nat => Value.int IntKind.u8 (a : Int)) <$> Rtype.kind t) #[.pointer (some ⟨4, 88, none⟩)]).run Tryz.prog w = .ok (.int .u8 22) w := by kernel_rfl
theorem kind83 (w : World) : ((ReflectliteType.abiMethod fun t => (fun a : Nat => Value.int IntKind.u8 (a : Int)) <$> Rtype.kind t) #[.pointer (some ⟨4, 99, none⟩)]).run Tryz.prog w = .ok (.int .u8 22) w := by kernel_rfl
theorem kind43 (w : World) : ((ReflectliteType.abiMethod fun t => (fun a : Nat => Value.int IntKind.u8 (a : Int)) <$> Rtype.kind t) #[.pointer (some ⟨4, 86, none⟩)]).run Tryz.prog w = .ok (.int .u8 25) w := by kernel_rfl
theorem kind23 (w : World) : ((ReflectliteType.abiMethod fun t => (fun a : Nat => Value.int IntKind.u8 (a : Int)) <$> Rtype.kind t) #[.pointer (some ⟨4, 34, none⟩)]).run Tryz.prog w = .ok (.int .u8 2) w := by kernel_rfl
theorem elem82 (w : World) : (ReflectliteType.method ReflectliteType.elem #[.agg #[.pointer (some ⟨4, 88, none⟩)]]).run Tryz.prog w = .ok (ty 86) w := by kernel_rfl
theorem elem83 (w : World) : (ReflectliteType.method ReflectliteType.elem #[.agg #[.pointer (some ⟨4, 99, none⟩)]]).run Tryz.prog w = .ok (ty 34) w := by kernel_rfl
theorem implements43 (w : World) : (ReflectliteType.relation "Implements" ReflectliteType.implements_ #[.agg #[.pointer (some ⟨4, 86, none⟩)], ty 43]).run Tryz.prog w = .ok (.bool true) w := by kernel_rfl
theorem implements23 (w : World) : (ReflectliteType.relation "Implements" ReflectliteType.implements_ #[.agg #[.pointer (some ⟨4, 34, none⟩)], ty 43]).run Tryz.prog w = .ok (.bool true) w := by kernel_rfl
theorem typeOf43 (v : Value) (w : World) : (ReflectliteType.typeOf #[.iface 86 v]).run Tryz.prog w = .ok (ty 86) w := by kernel_rfl
theorem typeOf23 (v : Value) (w : World) : (ReflectliteType.typeOf #[.iface 34 v]).run Tryz.prog w = .ok (ty 34) w := by kernel_rfl
theorem assignable43 (w : World) : (ReflectliteType.relation "AssignableTo" ReflectliteType.assignableTo #[.agg #[.pointer (some ⟨4, 86, none⟩)], ty 86]).run Tryz.prog w = .ok (.bool true) w := by kernel_rfl
theorem assignable23 (w : World) : (ReflectliteType.relation "AssignableTo" ReflectliteType.assignableTo #[.agg #[.pointer (some ⟨4, 34, none⟩)], ty 34]).run Tryz.prog w = .ok (.bool true) w := by kernel_rfl
theorem assignable23_43 (w : World) : (ReflectliteType.relation "AssignableTo" ReflectliteType.assignableTo #[.agg #[.pointer (some ⟨4, 34, none⟩)], ty 86]).run Tryz.prog w = .ok (.bool false) w := by kernel_rfl
theorem valueOf23 (n : Int) (w : World) : (ReflectliteValue.unpack (.iface 34 (.int .i64 n))).run Tryz.prog w
    = .ok (vl 34 ⟨w.heap.size, 0, none⟩ 130) (w.alloc (.cells #[.int .i64 n] 34)) := by kernel_rfl
theorem valueOf43 (c l e : Value) (w : World) : (ReflectliteValue.unpack (.iface 86 (.agg #[c, l, e]))).run Tryz.prog w
    = .ok (vl 86 ⟨w.heap.size, 0, none⟩ 153) (w.alloc (.cells #[c, l, e] 86)) := by kernel_rfl
end Go.Proofs.Pen.As

namespace Go.Proofs.Pen.As
open Go Go.Proofs Go.RowKit Go.Extern.Stop Go.Stop Go.Extern Go.Proofs.YtncgifjccpngfaaGreatDoor

theorem rlm (z : Sem Value) (f : TypeId → Addr → Nat → Nat → Sem Value) (v : Value) :
    ReflectliteValue.method z f #[v] = (do match ← ReflectliteValue.parts v with | none => z | some (t, a, fl) => f t a fl (fl % 32)) := rfl
theorem parts82 (a : Addr) (w : World) : (ReflectliteValue.parts (vl 88 a 150)).run Tryz.prog w = .ok (some (88, a, 150)) w := by kernel_rfl
theorem parts83 (a : Addr) (w : World) : (ReflectliteValue.parts (vl 99 a 150)).run Tryz.prog w = .ok (some (99, a, 150)) w := by kernel_rfl
theorem under82 : Tryz.prog.underlying 88 = some (.pointer 86) := by kernel_rfl
theorem under83 : Tryz.prog.underlying 99 = some (.pointer 34) := by kernel_rfl
theorem isNil82 (a p : Addr) (W : World) (ha : W.cell? a = some (.pointer (some p))) :
    (ReflectliteValue.method (ReflectliteValue.valueError "reflectlite.Value.IsNil" 0) ReflectliteValue.isNil #[vl 88 a 150]).run Tryz.prog W = .ok (.bool false) W := by
  rw [rlm]
  simp only [Sem.run_bind, parts82, Result.andThen]
  simp [ReflectliteValue.isNil, loadVar, isAgg, underlying, under82, ha, Result.andThen]
theorem isNil83 (a p : Addr) (W : World) (ha : W.cell? a = some (.pointer (some p))) :
    (ReflectliteValue.method (ReflectliteValue.valueError "reflectlite.Value.IsNil" 0) ReflectliteValue.isNil #[vl 99 a 150]).run Tryz.prog W = .ok (.bool false) W := by
  rw [rlm]
  simp only [Sem.run_bind, parts83, Result.andThen]
  simp [ReflectliteValue.isNil, loadVar, isAgg, underlying, under83, ha, Result.andThen]
theorem elemOf82 (w : World) : (Rtype.elem? 88).run Tryz.prog w = .ok (some 86) w := by kernel_rfl
theorem elemOf83 (w : World) : (Rtype.elem? 99).run Tryz.prog w = .ok (some 34) w := by kernel_rfl
theorem mk43 (p : Addr) (w : World) : (ReflectliteValue.mk 86 p ReflectliteValue.flagAddr).run Tryz.prog w = .ok (vl 86 p 409) w := by kernel_rfl
theorem mk23 (p : Addr) (w : World) : (ReflectliteValue.mk 34 p ReflectliteValue.flagAddr).run Tryz.prog w = .ok (vl 34 p 386) w := by kernel_rfl
theorem elemV82 (a p : Addr) (W : World) (ha : W.cell? a = some (.pointer (some p))) :
    (ReflectliteValue.method (ReflectliteValue.valueError "reflectlite.Value.Elem" 0) ReflectliteValue.elem #[vl 88 a 150]).run Tryz.prog W = .ok (vl 86 p 409) W := by
  rw [rlm]
  simp only [Sem.run_bind, parts82, Result.andThen]
  simp [ReflectliteValue.elem, loadVar, isAgg, underlying, under82, ha, Result.andThen, elemOf82, mk43]
theorem elemV83 (a p : Addr) (W : World) (ha : W.cell? a = some (.pointer (some p))) :
    (ReflectliteValue.method (ReflectliteValue.valueError "reflectlite.Value.Elem" 0) ReflectliteValue.elem #[vl 99 a 150]).run Tryz.prog W = .ok (vl 34 p 386) W := by
  rw [rlm]
  simp only [Sem.run_bind, parts83, Result.andThen]
  simp [ReflectliteValue.elem, loadVar, isAgg, underlying, under83, ha, Result.andThen, elemOf83, mk23]
theorem rls (v x : Value) : ReflectliteValue.set #[v, x] = (do
    let (some (dst, a, fl), some (src, b, _)) := (← ReflectliteValue.parts v, ← ReflectliteValue.parts x)
      | unsupported (.noEntry "extern/(internal/reflectlite.Value).Set.zeroValue")
    if fl / ReflectliteValue.flagAddr % 2 == 0 then unsupported (.noEntry "extern/(internal/reflectlite.Value).Set.unaddressable")
    let val ← loadVar src b
    if ← Rtype.directlyAssignable dst src then storeVar dst a val
    else if ← Rtype.implements dst src then
      if (← Rtype.kind src) == 20 then
        match val with
        | .nilIface => unsupported (.noEntry "extern/reflectlite: a nil value of one interface type handed on as a value of another")
        | _ => storeVar dst a val
      else storeVar dst a (.iface src val)
    else panicString ("reflectlite.Set: value of type " ++ (← Rtype.spelt src) ++ " is not assignable to type " ++ (← Rtype.spelt dst))
    pure (.tuple #[])) := rfl
theorem parts23a (a : Addr) (w : World) : (ReflectliteValue.parts (vl 34 a 386)).run Tryz.prog w = .ok (some (34, a, 386)) w := by kernel_rfl
theorem parts23 (a : Addr) (w : World) : (ReflectliteValue.parts (vl 34 a 130)).run Tryz.prog w = .ok (some (34, a, 130)) w := by kernel_rfl
theorem parts43a (a : Addr) (w : World) : (ReflectliteValue.parts (vl 86 a 409)).run Tryz.prog w = .ok (some (86, a, 409)) w := by kernel_rfl
theorem parts43 (a : Addr) (w : World) : (ReflectliteValue.parts (vl 86 a 153)).run Tryz.prog w = .ok (some (86, a, 153)) w := by kernel_rfl
theorem direct23 (w : World) : (Rtype.directlyAssignable 34 34).run Tryz.prog w = .ok true w := by kernel_rfl
theorem direct43 (w : World) : (Rtype.directlyAssignable 86 86).run Tryz.prog w = .ok true w := by kernel_rfl
theorem size43 (w : World) : (sizeOf 86).run Tryz.prog w = .ok 3 w := by kernel_rfl
theorem under23 : Tryz.prog.underlying 34 = some (.int .i64) := by kernel_rfl
theorem set23 (ta b : Addr) (n : Int) (old : Value) (W : World) (hb : W.cell? b = some (.int .i64 n)) (ht : W.cell? ta = some old) (hf : W.frozen? ta = false) :
    (ReflectliteValue.set #[vl 34 ta 386, vl 34 b 130]).run Tryz.prog W = .ok (.tuple #[]) (W.setCell ta (.int .i64 n)) := by
  rw [rls]
  simp only [Sem.run_bind, parts23a, parts23, Result.andThen]
  simp [ReflectliteValue.flagAddr, loadVar, isAgg, underlying, under23, hb, Result.andThen, direct23, storeVar, Value.cells, storeCells, Addr.add]
  rw [run_store Tryz.prog W ta _ _ (by rfl)]
  simp [ht, hf]
end Go.Proofs.Pen.As

namespace Go.Proofs.Pen.As
open Go Go.Proofs Go.RowKit Go.Extern.Stop Go.Stop Go.Extern Go.Proofs.YtncgifjccpngfaaGreatDoor

theorem isAgg43 (w : World) : (isAgg 86).run Tryz.prog w = .ok true w := by kernel_rfl

theorem load43 (b : Addr) (c l : Int) (e : Value) (W : World) (hb : CellsIn W b [.int .i64 c, .int .i64 l, e]) : (loadVar 86 b).run Tryz.prog W = .ok (.agg #[.int .i64 c, .int .i64 l, e]) W := by
  have := run_loadCells (P := Tryz.prog) hb
  unfold loadVar
  simp only [Sem.run_bind, isAgg43, Result.andThen, if_pos, size43]
  rw [show ([.int .i64 c, .int .i64 l, e] : List Value).length = 3 from rfl] at this
  rw [this]
  rfl
theorem set43 (B : Nat) (b : Addr) (c l : Int) (e o0 o1 o2 : Value) (W : World) (he : e.oneCell' = true) (hb : CellsIn W b [.int .i64 c, .int .i64 l, e]) {ty : TypeId} {fz : Nat × Nat} (hfz : Thaw fz 3) (ht : W.heap[B]? = some (.cells #[o0, o1, o2] ty fz)) :
    (ReflectliteValue.set #[vl 86 ⟨B, 0, none⟩ 409, vl 86 b 153]).run Tryz.prog W = .ok (.tuple #[]) (setBlk W B (.cells #[.int .i64 c, .int .i64 l, e] ty fz)) := by
  rw [rls]
  have hs := run_storeCells (P := Tryz.prog) [.int .i64 c, .int .i64 l, e] 0 0 [o0, o1, o2] W ht (by simp) hfz (by
    intro u hu
    simp only [List.mem_cons, List.not_mem_nil, or_false] at hu
    rcases hu with rfl | rfl | rfl
    · rfl
    · rfl
    · exact he)
  have hl := load43 b c l e W hb
  have hst : (storeVar 86 ⟨B, 0, none⟩ (.agg #[.int .i64 c, .int .i64 l, e])).run Tryz.prog W = .ok () (setBlk W B (.cells #[.int .i64 c, .int .i64 l, e] ty fz)) := by
    unfold storeVar
    simp only [Sem.run_bind, size43, Result.andThen]
    exact hs
  simp only [Sem.run_bind, parts43a, parts43, Result.andThen]
  simp [ReflectliteValue.flagAddr, hl, hst, direct43, Result.andThen]
end Go.Proofs.Pen.As

namespace Go.Proofs.Pen.As
open Go Go.Proofs Go.RowKit Go.Extern.Stop Go.Stop Go.Extern Go.Proofs.YtncgifjccpngfaaGreatDoor

abbrev hnd : Value := .iface 149 (.agg #[.pointer (some ⟨4, 43, none⟩)])

set_option maxHeartbeats 4000000 in
theorem as_hit23 (n : Int) (t : Addr) (old : Value) (w : World) (hg : w.cell? ⟨0, 0, none⟩ = some (.iface 149 (.agg #[.pointer (some ⟨4, 43, none⟩)]))) (ht0 : w.cell? t = some old) (hf0 : w.frozen? t = false) :
    Calls Tryz.prog 34 #[.iface 34 (.int .i64 n), .iface 99 (.pointer (some t))] w fun ev w' => ev = .returned (.bool true) ∧ w' = ((((w.alloc (.cells #[.pointer (some t)] 99)).alloc (.cells #[.pointer (some ⟨4, 99, none⟩), .pointer (some ⟨w.heap.size, 0, none⟩), .int .u64 150] 117)).alloc (.cells #[.pointer (some ⟨4, 99, none⟩), .pointer (some ⟨w.heap.size, 0, none⟩), .int .u64 150] 117)).alloc (.cells #[.int .i64 n] 34)).setCell t (.int .i64 n) := by
  have h67 := @run_callFunc_extern Tryz.prog 60 _ (fun args => ReflectliteValue.unpack (args.getD 0 (.tuple #[]))) Tryz.func60 (by kernel_rfl) (by kernel_rfl) (by kernel_rfl) (by kernel_rfl)
  have h68 := @run_callFunc_extern Tryz.prog 61 _ (ReflectliteValue.methodAny (ReflectliteValue.valueError "reflectlite.Value.Type" 0) (fun t _ _ _ => ReflectliteType.toType t)) Tryz.func61 (by kernel_rfl) (by kernel_rfl) (by kernel_rfl) (by kernel_rfl)
  have h69 := @run_callFunc_extern Tryz.prog 62 _ (ReflectliteValue.method (ReflectliteValue.valueError "reflectlite.Value.IsNil" 0) ReflectliteValue.isNil) Tryz.func62 (by kernel_rfl) (by kernel_rfl) (by kernel_rfl) (by kernel_rfl)
  have h127 := @run_callFunc_extern Tryz.prog 150 _ (ReflectliteType.abiMethod fun t => do pure (.int .u8 (← Rtype.kind t))) Tryz.func150 (by kernel_rfl) (by kernel_rfl) (by kernel_rfl) (by kernel_rfl)
  have h136 := @run_callFunc_extern Tryz.prog 163 _ (ReflectliteType.method ReflectliteType.elem) Tryz.func163 (by kernel_rfl) (by kernel_rfl) (by kernel_rfl) (by kernel_rfl)
  have h137 := @run_callFunc_extern Tryz.prog 164 _ (ReflectliteType.relation "Implements" ReflectliteType.implements_) Tryz.func164 (by kernel_rfl) (by kernel_rfl) (by kernel_rfl) (by kernel_rfl)
  have h72 := @run_callFunc_extern Tryz.prog 68 _ ReflectliteType.typeOf Tryz.func68 (by kernel_rfl) (by kernel_rfl) (by kernel_rfl) (by kernel_rfl)
  have h134 := @run_callFunc_extern Tryz.prog 161 _ (ReflectliteType.relation "AssignableTo" ReflectliteType.assignableTo) Tryz.func161 (by kernel_rfl) (by kernel_rfl) (by kernel_rfl) (by kernel_rfl)
  have h99 := @run_callFunc_extern Tryz.prog 87 _ (ReflectliteValue.method (ReflectliteValue.valueError "reflectlite.Value.Elem" 0) ReflectliteValue.elem) Tryz.func87 (by kernel_rfl) (by kernel_rfl) (by kernel_rfl) (by kernel_rfl)
  have h100 := @run_callFunc_extern Tryz.prog 88 _ ReflectliteValue.set Tryz.func88 (by kernel_rfl) (by kernel_rfl) (by kernel_rfl) (by kernel_rfl)
  have tO := typeOf23
  have mA := methodAssignableTo
  have a23 := assignable23
  have v23 := valueOf23
  have f6 := valueOf83
  have f7 := type83
  have mK := methodKind
  have mE := methodElem
  have mI := methodImplements
  have k83 := kind83
  have k23 := kind23
  have e83 := elem83
  have i23 := implements23
  have n8 := isNil83 ⟨w.heap.size, 0, none⟩ t ((w.alloc (.cells #[.pointer (some t)] 99)).alloc (.cells #[.pointer (some ⟨4, 99, none⟩), .pointer (some ⟨w.heap.size, 0, none⟩), .int .u64 150] 117)) (by simp)
  have hlt : 0 < w.heap.size := by
    rcases Nat.eq_zero_or_pos w.heap.size with h0 | h
    · simp [World.cell?, h0] at hg
    · exact h
  have hg2 : ((w.alloc (.cells #[.pointer (some t)] 99)).alloc (.cells #[.pointer (some ⟨4, 99, none⟩), .pointer (some ⟨w.heap.size, 0, none⟩), .int .u64 150] 117)).cell? ⟨0, 0, none⟩ = some (.iface 149 (.agg #[.pointer (some ⟨4, 43, none⟩)])) := by
    rw [World.cell?_alloc_lt _ _ ⟨0, 0, none⟩ (by simp), World.cell?_alloc_lt _ _ ⟨0, 0, none⟩ hlt]; exact hg
  have htl : t.block < w.heap.size := by
    rcases Nat.lt_or_ge t.block w.heap.size with h | h
    · exact h
    · simp [World.cell?, Array.getElem?_eq_none h] at ht0
  have el := elemV83 ⟨w.heap.size, 0, none⟩ t (((w.alloc (.cells #[.pointer (some t)] 99)).alloc (.cells #[.pointer (some ⟨4, 99, none⟩), .pointer (some ⟨w.heap.size, 0, none⟩), .int .u64 150] 117)).alloc (.cells #[.pointer (some ⟨4, 99, none⟩), .pointer (some ⟨w.heap.size, 0, none⟩), .int .u64 150] 117)) (by rw [World.cell?_alloc_lt _ _ ⟨w.heap.size, 0, none⟩ (by simp; omega)]; simp)
  have st := set23 t ⟨w.heap.size + 1 + 1 + 1, 0, none⟩ n old ((((w.alloc (.cells #[.pointer (some t)] 99)).alloc (.cells #[.pointer (some ⟨4, 99, none⟩), .pointer (some ⟨w.heap.size, 0, none⟩), .int .u64 150] 117)).alloc (.cells #[.pointer (some ⟨4, 99, none⟩), .pointer (some ⟨w.heap.size, 0, none⟩), .int .u64 150] 117)).alloc (.cells #[.int .i64 n] 34))
    (by rw [World.cell?_alloc_at _ _ _ _ (by simp)]; rfl)
    (by rw [World.cell?_alloc_lt _ _ t (by simp; omega), World.cell?_alloc_lt _ _ t (by simp; omega), World.cell?_alloc_lt _ _ t (by simp; omega), World.cell?_alloc_lt _ _ t htl]; exact ht0)
    (by rw [World.frozen?_alloc_old _ _ t (by simp; omega), World.frozen?_alloc_old _ _ t (by simp; omega), World.frozen?_alloc_old _ _ t (by simp; omega), World.frozen?_alloc_old _ _ t (Nat.ne_of_lt htl)]; exact hf0)
  go_enter Tryz.func34, Tryz.ntmps34
  go_wp2
  refine wp_loop_rounds 1 ?_
  rw [rounds_succ]
  go_wp2
  go_ret
  exact ⟨rfl, rfl⟩
end Go.Proofs.Pen.As

namespace Go.Proofs.Pen.As
open Go Go.Proofs Go.RowKit Go.Extern.Stop Go.Stop Go.Extern Go.Proofs.YtncgifjccpngfaaGreatDoor

set_option maxHeartbeats 4000000 in
theorem as_hit43 (c l : Int) (e : Value) (B : Nat) (o0 o1 o2 : Value) (w : World) (he : e.oneCell' = true) (hg : w.cell? ⟨0, 0, none⟩ = some (.iface 149 (.agg #[.pointer (some ⟨4, 43, none⟩)]))) {ty : TypeId} {fz : Nat × Nat} (hfz : Thaw fz 3) (ht0 : w.heap[B]? = some (.cells #[o0, o1, o2] ty fz)) :
    Calls Tryz.prog 34 #[.iface 86 (.agg #[.int .i64 c, .int .i64 l, e]), .iface 88 (.pointer (some ⟨B, 0, none⟩))] w fun ev w' => ev = .returned (.bool true) ∧ w' = setBlk ((((w.alloc (.cells #[.pointer (some ⟨B, 0, none⟩)] 88)).alloc (.cells #[.pointer (some ⟨4, 88, none⟩), .pointer (some ⟨w.heap.size, 0, none⟩), .int .u64 150] 117)).alloc (.cells #[.pointer (some ⟨4, 88, none⟩), .pointer (some ⟨w.heap.size, 0, none⟩), .int .u64 150] 117)).alloc (.cells #[.int .i64 c, .int .i64 l, e] 86)) B (.cells #[.int .i64 c, .int .i64 l, e] ty fz) := by
  have h67 := @run_callFunc_extern Tryz.prog 60 _ (fun args => ReflectliteValue.unpack (args.getD 0 (.tuple #[]))) Tryz.func60 (by kernel_rfl) (by kernel_rfl) (by kernel_rfl) (by kernel_rfl)
  have h68 := @run_callFunc_extern Tryz.prog 61 _ (ReflectliteValue.methodAny (ReflectliteValue.valueError "reflectlite.Value.Type" 0) (fun t _ _ _ => ReflectliteType.toType t)) Tryz.func61 (by kernel_rfl) (by kernel_rfl) (by kernel_rfl) (by kernel_rfl)
  have h69 := @run_callFunc_extern Tryz.prog 62 _ (ReflectliteValue.method (ReflectliteValue.valueError "reflectlite.Value.IsNil" 0) ReflectliteValue.isNil) Tryz.func62 (by kernel_rfl) (by kernel_rfl) (by kernel_rfl) (by kernel_rfl)
  have h127 := @run_callFunc_extern Tryz.prog 150 _ (ReflectliteType.abiMethod fun t => do pure (.int .u8 (← Rtype.kind t))) Tryz.func150 (by kernel_rfl) (by kernel_rfl) (by kernel_rfl) (by kernel_rfl)
  have h136 := @run_callFunc_extern Tryz.prog 163 _ (ReflectliteType.method ReflectliteType.elem) Tryz.func163 (by kernel_rfl) (by kernel_rfl) (by kernel_rfl) (by kernel_rfl)
  have h137 := @run_callFunc_extern Tryz.prog 164 _ (ReflectliteType.relation "Implements" ReflectliteType.implements_) Tryz.func164 (by kernel_rfl) (by kernel_rfl) (by kernel_rfl) (by kernel_rfl)
  have h72 := @run_callFunc_extern Tryz.prog 68 _ ReflectliteType.typeOf Tryz.func68 (by kernel_rfl) (by kernel_rfl) (by kernel_rfl) (by kernel_rfl)
  have h134 := @run_callFunc_extern Tryz.prog 161 _ (ReflectliteType.relation "AssignableTo" ReflectliteType.assignableTo) Tryz.func161 (by kernel_rfl) (by kernel_rfl) (by kernel_rfl) (by kernel_rfl)
  have h99 := @run_callFunc_extern Tryz.prog 87 _ (ReflectliteValue.method (ReflectliteValue.valueError "reflectlite.Value.Elem" 0) ReflectliteValue.elem) Tryz.func87 (by kernel_rfl) (by kernel_rfl) (by kernel_rfl) (by kernel_rfl)
  have h100 := @run_callFunc_extern Tryz.prog 88 _ ReflectliteValue.set Tryz.func88 (by kernel_rfl) (by kernel_rfl) (by kernel_rfl) (by kernel_rfl)
  have tO := typeOf43
  have mA := methodAssignableTo
  have a43 := assignable43
  have v43 := valueOf43
  have f6 := valueOf82
  have f7 := type82
  have mK := methodKind
  have mE := methodElem
  have mI := methodImplements
  have k82 := kind82
  have k43 := kind43
  have e82 := elem82
  have i43 := implements43
  have n8 := isNil82 ⟨w.heap.size, 0, none⟩ ⟨B, 0, none⟩ ((w.alloc (.cells #[.pointer (some ⟨B, 0, none⟩)] 88)).alloc (.cells #[.pointer (some ⟨4, 88, none⟩), .pointer (some ⟨w.heap.size, 0, none⟩), .int .u64 150] 117)) (by simp)
  have hlt : 0 < w.heap.size := by
    rcases Nat.eq_zero_or_pos w.heap.size with h0 | h
    · simp [World.cell?, h0] at hg
    · exact h
  have hg2 : ((w.alloc (.cells #[.pointer (some ⟨B, 0, none⟩)] 88)).alloc (.cells #[.pointer (some ⟨4, 88, none⟩), .pointer (some ⟨w.heap.size, 0, none⟩), .int .u64 150] 117)).cell? ⟨0, 0, none⟩ = some (.iface 149 (.agg #[.pointer (some ⟨4, 43, none⟩)])) := by
    rw [World.cell?_alloc_lt _ _ ⟨0, 0, none⟩ (by simp), World.cell?_alloc_lt _ _ ⟨0, 0, none⟩ hlt]; exact hg
  have htl : B < w.heap.size := (Array.getElem?_eq_some_iff.1 ht0).1
  have up : ∀ (v : World) (o : Obj), B < v.heap.size → (v.alloc o).heap[B]? = v.heap[B]? := fun v o h => by
    show (v.heap.push o)[B]? = _
    rw [Array.getElem?_push, if_neg (by omega)]
  have el := elemV82 ⟨w.heap.size, 0, none⟩ ⟨B, 0, none⟩ (((w.alloc (.cells #[.pointer (some ⟨B, 0, none⟩)] 88)).alloc (.cells #[.pointer (some ⟨4, 88, none⟩), .pointer (some ⟨w.heap.size, 0, none⟩), .int .u64 150] 117)).alloc (.cells #[.pointer (some ⟨4, 88, none⟩), .pointer (some ⟨w.heap.size, 0, none⟩), .int .u64 150] 117)) (by rw [World.cell?_alloc_lt _ _ ⟨w.heap.size, 0, none⟩ (by simp; omega)]; simp)
  have st := set43 B ⟨w.heap.size + 1 + 1 + 1, 0, none⟩ c l e o0 o1 o2 (((((w.alloc (.cells #[.pointer (some ⟨B, 0, none⟩)] 88)).alloc (.cells #[.pointer (some ⟨4, 88, none⟩), .pointer (some ⟨w.heap.size, 0, none⟩), .int .u64 150] 117)).alloc (.cells #[.pointer (some ⟨4, 88, none⟩), .pointer (some ⟨w.heap.size, 0, none⟩), .int .u64 150] 117)).alloc (.cells #[.int .i64 c, .int .i64 l, e] 86))) he
    (by
      intro j u hj
      show World.cell? _ (Addr.add ⟨w.heap.size + 1 + 1 + 1, 0, none⟩ j) = some u
      rw [add_none, Nat.zero_add, World.cell?_alloc_at _ _ _ _ (by simp)]
      simpa using hj) hfz
    (by rw [up _ _ (by simp; omega), up _ _ (by simp; omega), up _ _ (by simp; omega), up _ _ htl]; exact ht0)
  go_enter Tryz.func34, Tryz.ntmps34
  go_wp2
  refine wp_loop_rounds 1 ?_
  rw [rounds_succ]
  go_wp2
  go_ret
  exact ⟨rfl, rfl⟩
end Go.Proofs.Pen.As

namespace Go.Proofs.Pen.As
open Go Go.Proofs Go.RowKit Go.Extern.Stop Go.Stop Go.Extern Go.Proofs.YtncgifjccpngfaaGreatDoor

theorem noAs (v : Value) (xT : TypeId) (w : World) : (Instr.typeAssert (.iface 34 v) xT 153 true).run Tryz.prog w = .ok (.tuple #[.nilIface, .bool false]) w := run_typeAssert_lacksB Tryz.underlying153 (by kernel_rfl) (by kernel_rfl) v xT w
theorem noUnwrap (v : Value) (xT : TypeId) (w : World) : (Instr.typeAssert (.iface 34 v) xT 156 true).run Tryz.prog w = .ok (.tuple #[.nilIface, .bool false]) w := run_typeAssert_lacksB Tryz.underlying156 (by kernel_rfl) (by kernel_rfl) v xT w
theorem noUnwraps (v : Value) (xT : TypeId) (w : World) : (Instr.typeAssert (.iface 34 v) xT 157 true).run Tryz.prog w = .ok (.tuple #[.nilIface, .bool false]) w := run_typeAssert_lacksB Tryz.underlying157 (by kernel_rfl) (by kernel_rfl) v xT w

set_option maxHeartbeats 4000000 in
theorem as_miss (n : Int) (t : Addr) (w : World) (hg : w.cell? ⟨0, 0, none⟩ = some (.iface 149 (.agg #[.pointer (some ⟨4, 43, none⟩)]))) :
    Calls Tryz.prog 34 #[.iface 34 (.int .i64 n), .iface 88 (.pointer (some t))] w fun ev w' => ev = .returned (.bool false) ∧ w' = (((w.alloc (.cells #[.pointer (some t)] 88)).alloc (.cells #[.pointer (some ⟨4, 88, none⟩), .pointer (some ⟨w.heap.size, 0, none⟩), .int .u64 150] 117)).alloc (.cells #[.pointer (some ⟨4, 88, none⟩), .pointer (some ⟨w.heap.size, 0, none⟩), .int .u64 150] 117)) := by
  have h67 := @run_callFunc_extern Tryz.prog 60 _ (fun args => ReflectliteValue.unpack (args.getD 0 (.tuple #[]))) Tryz.func60 (by kernel_rfl) (by kernel_rfl) (by kernel_rfl) (by kernel_rfl)
  have h68 := @run_callFunc_extern Tryz.prog 61 _ (ReflectliteValue.methodAny (ReflectliteValue.valueError "reflectlite.Value.Type" 0) (fun t _ _ _ => ReflectliteType.toType t)) Tryz.func61 (by kernel_rfl) (by kernel_rfl) (by kernel_rfl) (by kernel_rfl)
  have h69 := @run_callFunc_extern Tryz.prog 62 _ (ReflectliteValue.method (ReflectliteValue.valueError "reflectlite.Value.IsNil" 0) ReflectliteValue.isNil) Tryz.func62 (by kernel_rfl) (by kernel_rfl) (by kernel_rfl) (by kernel_rfl)
  have h127 := @run_callFunc_extern Tryz.prog 150 _ (ReflectliteType.abiMethod fun t => do pure (.int .u8 (← Rtype.kind t))) Tryz.func150 (by kernel_rfl) (by kernel_rfl) (by kernel_rfl) (by kernel_rfl)
  have h136 := @run_callFunc_extern Tryz.prog 163 _ (ReflectliteType.method ReflectliteType.elem) Tryz.func163 (by kernel_rfl) (by kernel_rfl) (by kernel_rfl) (by kernel_rfl)
  have h137 := @run_callFunc_extern Tryz.prog 164 _ (ReflectliteType.relation "Implements" ReflectliteType.implements_) Tryz.func164 (by kernel_rfl) (by kernel_rfl) (by kernel_rfl) (by kernel_rfl)
  have h72 := @run_callFunc_extern Tryz.prog 68 _ ReflectliteType.typeOf Tryz.func68 (by kernel_rfl) (by kernel_rfl) (by kernel_rfl) (by kernel_rfl)
  have h134 := @run_callFunc_extern Tryz.prog 161 _ (ReflectliteType.relation "AssignableTo" ReflectliteType.assignableTo) Tryz.func161 (by kernel_rfl) (by kernel_rfl) (by kernel_rfl) (by kernel_rfl)
  have tO := typeOf23
  have mA := methodAssignableTo
  have a23 := assignable23_43
  have f6 := valueOf82
  have f7 := type82
  have mK := methodKind
  have mE := methodElem
  have mI := methodImplements
  have k82 := kind82
  have k43 := kind43
  have e82 := elem82
  have i43 := implements43
  have n8 := isNil82 ⟨w.heap.size, 0, none⟩ t ((w.alloc (.cells #[.pointer (some t)] 88)).alloc (.cells #[.pointer (some ⟨4, 88, none⟩), .pointer (some ⟨w.heap.size, 0, none⟩), .int .u64 150] 117)) (by simp)
  have hlt : 0 < w.heap.size := by
    rcases Nat.eq_zero_or_pos w.heap.size with h0 | h
    · simp [World.cell?, h0] at hg
    · exact h
  have hg2 : ((w.alloc (.cells #[.pointer (some t)] 88)).alloc (.cells #[.pointer (some ⟨4, 88, none⟩), .pointer (some ⟨w.heap.size, 0, none⟩), .int .u64 150] 117)).cell? ⟨0, 0, none⟩ = some (.iface 149 (.agg #[.pointer (some ⟨4, 43, none⟩)])) := by
    rw [World.cell?_alloc_lt _ _ ⟨0, 0, none⟩ (by simp), World.cell?_alloc_lt _ _ ⟨0, 0, none⟩ hlt]; exact hg
  have q1 := noAs
  have q2 := noUnwrap
  have q3 := noUnwraps
  go_enter Tryz.func34, Tryz.ntmps34
  go_wp2
  refine wp_loop_rounds 1 ?_
  rw [rounds_succ]
  go_wp2
  go_ret
  exact ⟨rfl, rfl⟩
end Go.Proofs.Pen.As

namespace Go.Proofs.Pen.As
open Go Go.Proofs Go.RowKit Go.Extern.Stop Go.Stop Go.Extern Go.Proofs.YtncgifjccpngfaaGreatDoor

noncomputable abbrev two (w : World) : World := (w.alloc (.cells #[.int .i64 0, .int .i64 0, .nilIface] 86)).alloc (.cells #[.int .i64 0] 34)

theorem code_nil (w : World) : Calls Tryz.prog 19 #[.nilIface] w fun ev w' => ev = .returned (.int .i64 0) ∧ w' = two w := by
  go_enter Tryz.func19, Tryz.ntmps19
  go_wp2
  go_ret
  exact ⟨rfl, rfl⟩

theorem kept_alloc (w : World) (o : Obj) : Below w.heap.size w (w.alloc o) := ⟨rfl, rfl, rfl, by show _ ≤ (w.heap.push o).size; simp, fun b hb => by
  show (w.heap.push o)[b]? = _
  rw [Array.getElem?_push, if_neg (by omega)]⟩
theorem below_more {n : Nat} {a b c : World} (h : Below n a b) (k : Below b.heap.size b c) (hn : n ≤ b.heap.size) : Below n a c :=
  ⟨k.os.trans h.os, k.tape.trans h.tape, k.output.trans h.output, Nat.le_trans h.size k.size, fun x hx => (k.block x (by omega)).trans (h.block x hx)⟩

theorem four (w : World) (a b c d : Obj) : Below w.heap.size w ((((w.alloc a).alloc b).alloc c).alloc d) :=
  below_more (below_more (below_more (kept_alloc w a) (kept_alloc _ b) (by simp)) (kept_alloc _ c) (by simp; omega)) (kept_alloc _ d) (by simp; omega)
theorem below_set {m n B : Nat} {w X : World} {o : Obj} (h : Below m w X) (hB : n ≤ B) (hn : n ≤ m) : Below n w (setBlk X B o) :=
  ⟨h.os, h.tape, h.output, by show _ ≤ (Array.setIfInBounds _ _ _).size; rw [Array.size_setIfInBounds]; exact h.size, fun b hb => by rw [setBlk_other (by omega)]; exact h.block b (by omega)⟩

theorem hit43 (c l : Int) (e : Value) (B : Nat) (o0 o1 o2 : Value) (w : World) (he : e.oneCell' = true) (hg : w.cell? ⟨0, 0, none⟩ = some (.iface 149 (.agg #[.pointer (some ⟨4, 43, none⟩)]))) (ht0 : w.heap[B]? = some (.cells #[o0, o1, o2] 86 (0, 0))) :
    Calls Tryz.prog 34 #[.iface 86 (.agg #[.int .i64 c, .int .i64 l, e]), .iface 88 (.pointer (some ⟨B, 0, none⟩))] w fun ev w' => ev = .returned (.bool true) ∧ w'.cell? ⟨B, 0, none⟩ = some (.int .i64 c) ∧ ∀ n, n ≤ B → Below n w w' := by
  refine (as_hit43 c l e B o0 o1 o2 w he hg (.inl rfl) ht0).mono ?_
  rintro ev w' ⟨rfl, rfl⟩
  have htl : B < w.heap.size := (Array.getElem?_eq_some_iff.1 ht0).1
  refine ⟨rfl, ?_, fun n hn => ?_⟩
  · have hB : (World.heap _)[B]? = some (.cells #[o0, o1, o2] 86 (0, 0)) := ((four w (.cells #[.pointer (some ⟨B, 0, none⟩)] 88) (.cells #[.pointer (some ⟨4, 88, none⟩), .pointer (some ⟨w.heap.size, 0, none⟩), .int .u64 150] 117) (.cells #[.pointer (some ⟨4, 88, none⟩), .pointer (some ⟨w.heap.size, 0, none⟩), .int .u64 150] 117) (.cells #[.int .i64 c, .int .i64 l, e] 86)).block B htl).trans ht0
    have := setBlk_at (o := .cells #[.int .i64 c, .int .i64 l, e] 86 (0, 0)) hB
    exact cell_at (vs := [.int .i64 c, .int .i64 l, e]) this 0
  · exact below_set (four w _ _ _ _) hn (by omega)

set_option maxHeartbeats 4000000 in
theorem code_fault (c l : Int) (e : Value) (w : World) (he : e.oneCell' = true) (hg : w.cell? ⟨0, 0, none⟩ = some (.iface 149 (.agg #[.pointer (some ⟨4, 43, none⟩)]))) :
    Calls Tryz.prog 19 #[.iface 86 (.agg #[.int .i64 c, .int .i64 l, e])] w fun ev w' => ev = .returned (.int .i64 c) ∧ Below w.heap.size w w' := by
  have hlt : 0 < w.heap.size := by
    rcases Nat.eq_zero_or_pos w.heap.size with h0 | h
    · simp [World.cell?, h0] at hg
    · exact h
  have hgA : (two w).cell? ⟨0, 0, none⟩ = some (.iface 149 (.agg #[.pointer (some ⟨4, 43, none⟩)])) := by
    rw [World.cell?_alloc_lt _ _ ⟨0, 0, none⟩ (by simp), World.cell?_alloc_lt _ _ ⟨0, 0, none⟩ hlt]; exact hg
  have htA : (two w).heap[w.heap.size]? = some (.cells #[.int .i64 0, .int .i64 0, .nilIface] 86 (0, 0)) := by
    show ((w.heap.push _).push _)[w.heap.size]? = _
    rw [Array.getElem?_push, if_neg (by simp), Array.getElem?_push, if_pos rfl]
  have hbA : Below w.heap.size w (two w) := below_more (kept_alloc w _) (kept_alloc _ _) (by simp)
  go_enter Tryz.func19, Tryz.ntmps19
  go_wp2_with (first | (go_at_call 34; refine (hit43 _ _ _ _ _ _ _ _ he hgA htA).mono ?_; rintro ev w' ⟨rfl, hc, hb⟩))
  go_ret
  refine ⟨rfl, ?_⟩
  have := hb w.heap.size (Nat.le_refl _)
  exact ⟨this.os.trans hbA.os, this.tape.trans hbA.tape, this.output.trans hbA.output, Nat.le_trans hbA.size this.size, fun b hb' => (this.block b hb').trans (hbA.block b hb')⟩
end Go.Proofs.Pen.As

namespace Go.Proofs.Pen.As
open Go Go.Proofs Go.RowKit Go.Extern.Stop Go.Stop Go.Extern Go.Proofs.YtncgifjccpngfaaGreatDoor

theorem three (w : World) (a b c : Obj) : Below w.heap.size w (((w.alloc a).alloc b).alloc c) :=
  below_more (below_more (kept_alloc w a) (kept_alloc _ b) (by simp)) (kept_alloc _ c) (by simp; omega)

theorem miss43 (n : Int) (t : Addr) (w : World) (hg : w.cell? ⟨0, 0, none⟩ = some (.iface 149 (.agg #[.pointer (some ⟨4, 43, none⟩)]))) :
    Calls Tryz.prog 34 #[.iface 34 (.int .i64 n), .iface 88 (.pointer (some t))] w fun ev w' => ev = .returned (.bool false) ∧ Below w.heap.size w w' := by
  refine (as_miss n t w hg).mono ?_
  rintro ev w' ⟨rfl, rfl⟩
  exact ⟨rfl, three w _ _ _⟩

theorem hit23 (n : Int) (B : Nat) (old : Value) (w : World) (hg : w.cell? ⟨0, 0, none⟩ = some (.iface 149 (.agg #[.pointer (some ⟨4, 43, none⟩)]))) (ht0 : w.heap[B]? = some (.cells #[old] 34 (0, 0))) :
    Calls Tryz.prog 34 #[.iface 34 (.int .i64 n), .iface 99 (.pointer (some ⟨B, 0, none⟩))] w fun ev w' => ev = .returned (.bool true) ∧ w'.cell? ⟨B, 0, none⟩ = some (.int .i64 n) ∧ ∀ m, m ≤ B → Below m w w' := by
  have htl : B < w.heap.size := (Array.getElem?_eq_some_iff.1 ht0).1
  refine (as_hit23 n ⟨B, 0, none⟩ old w hg (cell_at (vs := [old]) ht0 0) (by simp [World.frozen?, ht0])).mono ?_
  rintro ev w' ⟨rfl, rfl⟩
  have hB : (World.heap _)[B]? = some (.cells [old].toArray 34 (0, 0)) := ((four w (.cells #[.pointer (some ⟨B, 0, none⟩)] 99) (.cells #[.pointer (some ⟨4, 99, none⟩), .pointer (some ⟨w.heap.size, 0, none⟩), .int .u64 150] 117) (.cells #[.pointer (some ⟨4, 99, none⟩), .pointer (some ⟨w.heap.size, 0, none⟩), .int .u64 150] 117) (.cells #[.int .i64 n] 34)).block B htl).trans ht0
  rw [setCell_setBlk hB]
  exact ⟨rfl, cell_at (vs := [.int .i64 n]) (setBlk_at hB) 0, fun m hm => below_set (four w _ _ _ _) hm (by omega)⟩

set_option maxRecDepth 100000 in
set_option maxHeartbeats 4000000 in
theorem code_errno (n : Int) (w : World) (hg : w.cell? ⟨0, 0, none⟩ = some (.iface 149 (.agg #[.pointer (some ⟨4, 43, none⟩)]))) :
    Calls Tryz.prog 19 #[.iface 34 (.int .i64 n)] w fun ev w' => ev = .returned (.int .i64 n) ∧ Below w.heap.size w w' := by
  have hlt : 0 < w.heap.size := by
    rcases Nat.eq_zero_or_pos w.heap.size with h0 | h
    · simp [World.cell?, h0] at hg
    · exact h
  have hgA : (two w).cell? ⟨0, 0, none⟩ = some (.iface 149 (.agg #[.pointer (some ⟨4, 43, none⟩)])) := by
    rw [World.cell?_alloc_lt _ _ ⟨0, 0, none⟩ (by simp), World.cell?_alloc_lt _ _ ⟨0, 0, none⟩ hlt]; exact hg
  have htA : (two w).heap[w.heap.size + 1]? = some (.cells #[.int .i64 0] 34 (0, 0)) := by
    show ((w.heap.push _).push _)[w.heap.size + 1]? = _
    rw [Array.getElem?_push, if_pos (by simp)]
  have hbA : Below w.heap.size w (two w) := below_more (kept_alloc w _) (kept_alloc _ _) (by simp)
  have hszA : (two w).heap.size = w.heap.size + 1 + 1 := by simp
  have step : ∀ w1, Below (two w).heap.size (two w) w1 → w1.cell? ⟨0, 0, none⟩ = some (.iface 149 (.agg #[.pointer (some ⟨4, 43, none⟩)])) ∧ w1.heap[w.heap.size + 1]? = some (.cells #[.int .i64 0] 34 (0, 0)) := fun w1 h => by
    have z0 : 0 < (two w).heap.size := by rw [hszA]; omega
    have z1 : w.heap.size + 1 < (two w).heap.size := by rw [hszA]; omega
    have e0 := h.block 0 z0
    have e1 := h.block _ z1
    refine ⟨?_, e1.trans htA⟩
    rw [← hgA]
    unfold World.cell?
    rw [e0]
  go_enter Tryz.func19, Tryz.ntmps19
  go_wp2_with (first
    | (go_at_call 34; refine (hit23 _ _ _ _ g1 t1).mono ?_; rintro ev w2 ⟨rfl, hc, hb2⟩)
    | (go_at_call 34; refine (miss43 _ _ _ hgA).mono ?_; rintro ev w1 ⟨rfl, hb1⟩; obtain ⟨g1, t1⟩ := step w1 hb1))
  go_ret
  refine ⟨rfl, ?_⟩
  have q := hb2 w.heap.size (by omega)
  exact ⟨q.os.trans (hb1.os.trans hbA.os), q.tape.trans (hb1.tape.trans hbA.tape), q.output.trans (hb1.output.trans hbA.output), Nat.le_trans hbA.size (Nat.le_trans hb1.size q.size),
    fun b hb' => (q.block b hb').trans ((hb1.block b (by omega)).trans (hbA.block b hb'))⟩
end Go.Proofs.Pen.As

namespace Go.Proofs.Pen
open Go Go.Proofs Go.RowKit Go.Extern.Stop Go.Stop Go.Extern Go.Proofs.YtncgifjccpngfaaGreatDoor

def linkAV : AV → Bool
  | .nili => true
  | .ifc _ _ => true
  | _ => false

def ErrD.top : ErrD → Int
  | .nil => 0
  | .code n => n
  | .fault c _ _ => c

theorem err_one (tf te : Nat) : ∀ e : ErrD, (errVal tf te e).oneCell' = true
  | .nil => rfl
  | .code _ => rfl
  | .fault _ _ _ => rfl

def codeAV : List AV → T AV
  | [.nili] => .ret (.it .i64 0)
  | [.ifc t (.agg [.it .i64 c, .it .i64 _, e])] => if t = 86 ∧ linkAV e = true then .ret (.it .i64 c) else .fail
  | [.ifc t (.it .i64 n)] => if t = 34 then .ret (.it .i64 n) else .fail
  | [.er tf te x] => if tf = 86 ∧ te = 34 then .ret (.it .i64 x.top) else .fail
  | _ => .fail

theorem link_one {r : Res} {e : AV} {v : Value} (h : linkAV e = true) (hv : VRel r e v) : v.oneCell' = true := by
  cases e <;> simp [linkAV] at h
  · simp only [VRel] at hv; subst hv; rfl
  · simp only [VRel] at hv; obtain ⟨u, rfl, _⟩ := hv; rfl

theorem code_ok : FnOK Tryz.prog 19 codeAV := by
  intro args v hv
  refine ⟨by kernel_rfl, fun r w us hι hp hgl hl => ?_⟩
  have hg : w.cell? ⟨0, 0, none⟩ = some (.iface 149 (.agg #[.pointer (some ⟨4, 43, none⟩)])) := hp _ _ (hgl _ _ door_globOf)
  have close : ∀ (n : Int) (us : List Value), v = .it .i64 n → (Calls Tryz.prog 19 us.toArray w fun ev w' => ev = .returned (.int .i64 n) ∧ Below w.heap.size w w') →
      Calls Tryz.prog 19 us.toArray w fun e w' => ∃ u r', e = .returned u ∧ r.le r' ∧ Below w.heap.size w w' ∧ (∀ a x, r'.H a = some x → w'.cell? a = some x) ∧
        (∀ a x, r'.H a = some x → r.H a = some x ∨ w.heap.size ≤ a.block) ∧ (∀ i, r'.ι i = none) ∧ VRel r' v u := by
    intro n us hvn h
    refine h.mono ?_
    rintro ev w' ⟨rfl, hb⟩
    refine ⟨_, r, rfl, .refl r, hb, fun a x e => ?_, fun a x e => .inl e, hι, by subst hvn; simp only [VRel]⟩
    have hc := hp a x e
    have hlt : a.block < w.heap.size := by
      rcases Nat.lt_or_ge a.block w.heap.size with h | h
      · exact h
      · simp [World.cell?, Array.getElem?_eq_none h] at hc
    rw [← hc]
    exact World.cell?_of_block (hb.block _ hlt)
  unfold codeAV at hv
  split at hv
  · have := run_ret hv; subst this
    simp only [LRel] at hl
    obtain ⟨u, us', rfl, hu, hl⟩ := hl
    simp only [VRel] at hu; subst hu
    subst hl
    refine close 0 _ rfl ((As.code_nil w).mono ?_)
    rintro ev w' ⟨rfl, rfl⟩
    exact ⟨rfl, As.below_more (As.kept_alloc w _) (As.kept_alloc _ _) (by simp)⟩
  · rename_i t c l e
    split at hv
    · rename_i ht
      obtain ⟨rfl, hlk⟩ := ht
      have := run_ret hv; subst this
      simp only [LRel] at hl
      obtain ⟨u, us', rfl, hu, hl⟩ := hl
      subst hl
      simp only [VRel, LRel] at hu
      obtain ⟨u1, rfl, vs, rfl, x1, y1, rfl, rfl, x2, y2, rfl, rfl, x3, y3, rfl, h3, rfl⟩ := hu
      exact close c _ rfl (As.code_fault c l x3 w (link_one hlk h3) hg)
    · exact (run_fail hv).elim
  · rename_i t n
    split at hv
    · rename_i ht
      subst ht
      have := run_ret hv; subst this
      simp only [LRel] at hl
      obtain ⟨u, us', rfl, hu, hl⟩ := hl
      subst hl
      simp only [VRel] at hu
      obtain ⟨u1, rfl, rfl⟩ := hu
      exact close n _ rfl (As.code_errno n w hg)
    · exact (run_fail hv).elim
  · rename_i tf te x
    split at hv
    · rename_i ht
      obtain ⟨rfl, rfl⟩ := ht
      have := run_ret hv; subst this
      simp only [LRel] at hl
      obtain ⟨u, us', rfl, hu, hl⟩ := hl
      subst hl
      simp only [VRel] at hu
      subst hu
      cases x with
      | nil =>
        refine close 0 _ rfl ((As.code_nil w).mono ?_)
        rintro ev w' ⟨rfl, rfl⟩
        exact ⟨rfl, As.below_more (As.kept_alloc w _) (As.kept_alloc _ _) (by simp)⟩
      | code n => exact close n _ rfl (As.code_errno n w hg)
      | fault c l e => exact close c _ rfl (As.code_fault c l (errVal 86 34 e) w (err_one 86 34 e) hg)
    · exact (run_fail hv).elim
  · exact (run_fail hv).elim
end Go.Proofs.Pen

namespace Go.Proofs.Pen
open Go Go.Proofs Go.ChangeShapes Go.WideShapes Go.RowKit

theorem fn_below {P : Program} {g : Nat} {args : List AV} {v : AV} (hc : callable P g = true)
    (h : ∀ (r : Res) (w : World) (us : List Value), LRel r args us → ∃ u, VRel r v u ∧ Calls P g us.toArray w fun e w' => e = .returned u ∧ Below w.heap.size w w') : FnAt P g args v := by
  refine ⟨hc, fun r w us hι hp _ hl => ?_⟩
  obtain ⟨u, hv, hk⟩ := h r w us hl
  refine hk.mono ?_
  rintro e w' ⟨rfl, hb⟩
  refine ⟨u, r, rfl, .refl r, hb, fun a x e => ?_, fun a x e => .inl e, hι, hv⟩
  have hc := hp a x e
  have hlt : a.block < w.heap.size := by
    rcases Nat.lt_or_ge a.block w.heap.size with h | h
    · exact h
    · simp [World.cell?, Array.getElem?_eq_none h] at hc
  rw [← hc]
  exact World.cell?_of_block (hb.block _ hlt)

theorem calls_below {P : Program} {g : Nat} {us : Array Value} {w : World} {u : Value} (h : Calls P g us w fun e w' => e = .returned u ∧ w' = w) : Calls P g us w fun e w' => e = .returned u ∧ Below w.heap.size w w' :=
  h.mono fun e w' k => ⟨k.1, k.2 ▸ Below.refl _ _⟩

def byteH (c : ByteArray) : UInt8 := c.data.getD 0 0
theorem byteOf_some {c : ByteArray} (h : c.size = 1) : c = ⟨#[byteH c]⟩ := by
  obtain ⟨⟨l⟩⟩ := c
  match l, h with
  | [b], _ => rfl

def trimR (s : ByteArray) (b : UInt8) : ByteArray := ⟨(Lib.trimRightB s.data.toList b).toArray⟩
def cutP (s p : ByteArray) : ByteArray := ⟨(Lib.trimPrefix s.data.toList p.data.toList).toArray⟩
def hasP (s p : ByteArray) : Bool := Lib.hasPrefix s.data.toList p.data.toList
def indexB (s : ByteArray) (b : UInt8) : Int := Lib.indexByte s.data.toList b
def countB (s : ByteArray) (b : UInt8) : Int := Lib.countByte s.data.toList b
def repB (s : ByteArray) (n : Int) : ByteArray := ⟨(Lib.repeatL s.data.toList n.toNat).toArray⟩

def trimAV (args : List AV) : T AV := match args with
  | [.sr s, .sr c] => .ite (decide (c.size = 1) && decide ((byteH c).toNat < 128) && decide (s.size ≤ 9223372036854775807)) (.ret (.sr (trimR s (byteH c)))) .fail
  | _ => .fail
theorem trim_ok : FnOK Tryz.prog 67 trimAV := by
  intro args v hv
  unfold trimAV at hv
  split at hv
  case h_2 => exact (run_fail hv).elim
  rename_i s c
  obtain ⟨h1, hv2⟩ := run_ite_fail hv
  clear hv
  simp only [Bool.and_eq_true, decide_eq_true_eq] at h1
  obtain ⟨⟨h0, h1⟩, h2⟩ := h1
  generalize hb : byteH c = b at hv2 h1
  have hc := byteOf_some h0
  rw [hb] at hc
  subst hc
  replace h1 := And.intro h1 h2
  cases run_ret hv2
  refine fn_below (by kernel_rfl) fun r w us hl => ?_
  simp only [LRel] at hl
  obtain ⟨u1, us1, rfl, k1, u2, us2, rfl, k2, rfl⟩ := hl
  simp only [VRel] at k1 k2
  subst k1 k2
  exact ⟨_, by simp only [VRel]; rfl, calls_below (Tryz.strings_TrimRight_one s b h1.1 w h1.2)⟩

def cutPrefixAV (args : List AV) : T AV := match args with
  | [.sr s, .sr p] => .ret (.tup [.sr (cutP s p), .bo (hasP s p)])
  | _ => .fail
theorem cutPrefix_ok : FnOK Tryz.prog 97 cutPrefixAV := by
  intro args v hv
  unfold cutPrefixAV at hv
  split at hv
  case h_2 => exact (run_fail hv).elim
  rename_i s p
  cases run_ret hv
  refine fn_below (by kernel_rfl) fun r w us hl => ?_
  simp only [LRel] at hl
  obtain ⟨u1, us1, rfl, k1, u2, us2, rfl, k2, rfl⟩ := hl
  simp only [VRel] at k1 k2
  subst k1 k2
  exact ⟨_, by simp only [VRel, LRel]; exact ⟨_, rfl, _, _, rfl, rfl, _, _, rfl, rfl, rfl⟩, calls_below (Tryz.strings_CutPrefix s p w)⟩

def indexAV1 (args : List AV) : T AV := match args with
  | [.sr s, .sr c] => .ite (decide (c.size = 1)) (.ret (.it .i64 (indexB s (byteH c)))) .fail
  | _ => .fail
theorem index_ok : FnOK Tryz.prog 110 indexAV1 := by
  intro args v hv
  unfold indexAV1 at hv
  split at hv
  case h_2 => exact (run_fail hv).elim
  rename_i s c
  obtain ⟨h0, hv2⟩ := run_ite_fail hv
  clear hv
  simp only [decide_eq_true_eq] at h0
  generalize hb : byteH c = b at hv2
  have hc := byteOf_some h0
  rw [hb] at hc
  subst hc
  cases run_ret hv2
  refine fn_below (by kernel_rfl) fun r w us hl => ?_
  simp only [LRel] at hl
  obtain ⟨u1, us1, rfl, k1, u2, us2, rfl, k2, rfl⟩ := hl
  simp only [VRel] at k1 k2
  subst k1 k2
  exact ⟨_, by simp only [VRel]; rfl, calls_below (Tryz.stringslite_Index_one s b w)⟩

def countAV1 (args : List AV) : T AV := match args with
  | [.sr s, .sr c] => .ite (decide (c.size = 1)) (.ret (.it .i64 (countB s (byteH c)))) .fail
  | _ => .fail
theorem count_ok : FnOK Tryz.prog 94 countAV1 := by
  intro args v hv
  unfold countAV1 at hv
  split at hv
  case h_2 => exact (run_fail hv).elim
  rename_i s c
  obtain ⟨h0, hv2⟩ := run_ite_fail hv
  clear hv
  simp only [decide_eq_true_eq] at h0
  generalize hb : byteH c = b at hv2
  have hc := byteOf_some h0
  rw [hb] at hc
  subst hc
  cases run_ret hv2
  refine fn_below (by kernel_rfl) fun r w us hl => ?_
  simp only [LRel] at hl
  obtain ⟨u1, us1, rfl, k1, u2, us2, rfl, k2, rfl⟩ := hl
  simp only [VRel] at k1 k2
  subst k1 k2
  exact ⟨_, by simp only [VRel]; rfl, calls_below (Tryz.strings_Count_one s b w)⟩

def repeatAV (args : List AV) : T AV := match args with
  | [.sr s, .it .i64 n] => .ite (decide (0 ≤ n) && decide ((s.size : Int) * n ≤ 140737488355328) && decide (n ≤ 9223372036854775807)) (.ret (.sr (repB s n))) .fail
  | _ => .fail
theorem repeat_ok : FnOK Tryz.prog 98 repeatAV := by
  intro args v hv
  unfold repeatAV at hv
  split at hv
  case h_2 => exact (run_fail hv).elim
  rename_i s n
  obtain ⟨h1, hv⟩ := run_ite_fail hv
  simp only [Bool.and_eq_true, decide_eq_true_eq] at h1
  obtain ⟨⟨h0, h1⟩, h2⟩ := h1
  cases run_ret hv
  obtain ⟨c, rfl⟩ : ∃ c : Nat, n = c := ⟨n.toNat, by omega⟩
  refine fn_below (by kernel_rfl) fun r w us hl => ?_
  simp only [LRel] at hl
  obtain ⟨u1, us1, rfl, k1, u2, us2, rfl, k2, rfl⟩ := hl
  simp only [VRel] at k1 k2
  subst k1 k2
  have h1 : s.size * c ≤ 140737488355328 := by
    have : ((s.size * c : Nat) : Int) ≤ 140737488355328 := by rw [Int.natCast_mul]; exact h1
    omega
  exact ⟨_, by simp only [VRel]; rfl, Tryz.strings_Repeat s c w (by omega) h1⟩
end Go.Proofs.Pen

namespace Go.Proofs.Pen
open Go Go.Proofs Go.RowKit Go.Lib Go.Shelf

def blankN (n : Nat) : Bool := n == 32 || n == 9

theorem blank_gives (W : World) (x : Nat) : FnGives Tryz.prog 73 #[] #[encR x] (.bool (blankN x)) W := by
  unfold FnGives blankN encR
  by_cases h1 : x = 32
  · subst h1
    go_enter Tryz.func73, Tryz.ntmps73
    go_wp2
    go_ret
    exact ⟨rfl, 0, rfl⟩
  · by_cases h2 : x = 9
    · subst h2
      go_enter Tryz.func73, Tryz.ntmps73
      go_wp2
      go_ret
      exact ⟨rfl, 0, rfl⟩
    · have e1 : ((x : Int) == 32) = false := by simp; omega
      have e2 : ((x : Int) == 9) = false := by simp; omega
      have e3 : (x == 32 || x == 9) = false := by simp [h1, h2]
      rw [e3]
      go_enter Tryz.func73, Tryz.ntmps73
      go_wp2
      go_ret
      exact ⟨rfl, 0, rfl⟩

theorem fn_texts {P : Program} {g : Nat} {args : List AV} {xs : List ByteArray} (hc : callable P g = true)
    (h : ∀ (r : Res) (w : World) (us : List Value), LRel r args us → Calls P g us.toArray w fun e w' => ∃ A, e = .returned (.slice (some ⟨A, 0, none⟩) xs.length xs.length) ∧ w.heap.size ≤ A ∧
      (∀ j u, (xs.map Value.string)[j]? = some u → w'.cell? ((⟨A, 0, none⟩ : Addr).add j) = some u) ∧ Below w.heap.size w w') : FnAt P g args (.sl .str xs) := by
  refine ⟨hc, fun r w us hι hp _ hl => (h r w us hl).mono ?_⟩
  rintro e w' ⟨A, rfl, hA, hx, hb⟩
  have hlt : ∀ a x, r.H a = some x → a.block < w.heap.size := fun a x e => by
    have hc := hp a x e
    rcases Nat.lt_or_ge a.block w.heap.size with h | h
    · exact h
    · simp [World.cell?, Array.getElem?_eq_none h] at hc
  let r' : Res := { H := fun a => if a.block < w.heap.size then r.H a else w'.cell? a, ι := r.ι }
  have hH : ∀ a, r'.H a = if a.block < w.heap.size then r.H a else w'.cell? a := fun _ => rfl
  refine ⟨_, r', rfl, ⟨fun a x e => by rw [hH, if_pos (hlt a x e)]; exact e, fun _ _ e => e⟩, hb, fun a x e => ?_, fun a x e => ?_, hι, ?_⟩
  · rw [hH] at e
    split at e
    · rename_i hlt'
      rw [← hp a x e]
      exact World.cell?_of_block (hb.block _ hlt')
    · exact e
  · rw [hH] at e
    split at e
    · exact .inl e
    · rename_i h; exact .inr (by omega)
  · simp only [VRel]
    refine ⟨_, _, rfl, Nat.le_refl _, fun _ => ⟨⟨A, 0, none⟩, rfl, fun i x hi => ⟨[.string x], rfl, rfl, fun j u hu => ?_⟩⟩⟩
    cases j with
    | zero =>
      have hu : Value.string x = u := by simpa using hu
      subst hu
      have hm : (xs.map Value.string)[i]? = some (Value.string x) := by rw [List.getElem?_map]; exact congrArg (Option.map Value.string) (show xs[i]? = some x from hi)
      have hcell := hx i _ hm
      have ead : ((⟨A, 0, none⟩ : Addr).add (i * 1)).add 0 = (⟨A, 0, none⟩ : Addr).add i := by simp [Addr.add]
      show r'.H (((⟨A, 0, none⟩ : Addr).add (i * 1)).add 0) = _
      rw [ead, hH]
      have hb2 : ((⟨A, 0, none⟩ : Addr).add i).block = A := by rw [Addr.add_lit]
      rw [hb2, if_neg (by omega)]
      exact hcell
    | succ j => simp at hu

def fieldsAV (args : List AV) : T AV := match args with
  | [.sr s, .clo f [] []] => if f = 73 then .ite (decide (s.size ≤ 4294967296)) (.ret (.sl .str (goFieldsP blankN s))) .fail else .fail
  | _ => .fail
theorem fields_ok : FnOK Tryz.prog 74 fieldsAV := by
  intro args v hv
  unfold fieldsAV at hv
  split at hv
  case h_2 => exact (run_fail hv).elim
  rename_i s f
  split at hv
  case isFalse => exact (run_fail hv).elim
  rename_i hf
  subst hf
  obtain ⟨h1, hv⟩ := run_ite_fail hv
  simp only [decide_eq_true_eq] at h1
  cases run_ret hv
  refine fn_texts (by kernel_rfl) fun r w us hl => ?_
  simp only [LRel] at hl
  obtain ⟨u1, us1, rfl, k1, u2, us2, rfl, k2, rfl⟩ := hl
  simp only [VRel, LRel] at k1 k2
  obtain ⟨x1, x2, rfl, rfl, rfl⟩ := k2
  subst k1
  refine (Tryz.strings_FieldsFunc 73 #[] (enters_of Tryz.func73 (by kernel_rfl) rfl) blankN s w h1 (fun W x _ => blank_gives W x)).mono ?_
  rintro e w' ⟨A, rfl, hA, ho, hb⟩
  exact ⟨A, rfl, hA, ho.cells rfl, hb⟩
end Go.Proofs.Pen

namespace Go.Proofs.Pen
open Go Go.Proofs Go.RowKit Go.Proofs.YtncgifjccpngfaaGreatDoor

def failAV (_ : List AV) : T AV := .fail
theorem fail_ok {P : Program} {g : Nat} : FnOK P g failAV := fun _ _ hv => (run_fail hv).elim

def asD (args : List AV) (own : List Blk) : T (AV × List Blk) :=
  match args with
  | [.er tf te x, .ifc t (.ref id 0)] =>
    if tf = 86 ∧ te = 34 ∧ t = 88 then
      match rowAt own id with
      | .cells [_, _, _] => .ite x.isFault (.ret (.tt, own.set id (.cells [.it .i64 x.faultC, .it .i64 x.faultL, .er 86 34 x.faultE]))) (.ret (.ff, own))
      | _ => .fail
    else .fail
  | _ => .fail

theorem below_rel {P : Program} {w0 : Base P} {M : Nat → Prop} {own : List Blk} {r : Res} {w w' : World} (hR : Rel w0 M (Sn own) own r w) (hb : Below w.heap.size w w') : Rel w0 M (Sn own) own r w' := by
  have hlt : ∀ {a v}, r.H a = some v → a.block < w.heap.size := fun {a v} e => by
    have hc := hR.pers a v e
    rcases Nat.lt_or_ge a.block w.heap.size with h | h
    · exact h
    · simp [World.cell?, Array.getElem?_eq_none h] at hc
  exact hR.below (H' := r.H) hb (fun _ _ e => e) (fun a v e => by rw [← hR.pers a v e]; exact World.cell?_of_block (hb.block _ (hlt e))) (fun _ _ e => .inl e)

theorem as_deep : ∀ args own v own', (asD args own).run = some (v, own') → callable Tryz.prog 34 = true ∧ ∀ (w0 : Base Tryz.prog) (M : Nat → Prop) (r : Res) (w : World) (us : List Value), Rel w0 M (Sn own) own r w → LRel r args us →
      Calls Tryz.prog 34 us.toArray w fun e w' => ∃ u r', e = .returned u ∧ r.le r' ∧ Rel w0 M (Sn own') own' r' w' ∧ VRel r' v u := by
  intro args own v own' hv
  refine ⟨by kernel_rfl, fun w0 M r w us hR hl => ?_⟩
  have hg : w.cell? ⟨0, 0, none⟩ = some (.iface 149 (.agg #[.pointer (some ⟨4, 43, none⟩)])) := hR.pers _ _ (hR.glob _ _ door_globOf)
  unfold asD at hv
  split at hv
  case h_2 => exact (run_fail hv).elim
  rename_i tf te x t id
  split at hv
  case isFalse => exact (run_fail hv).elim
  rename_i ht
  obtain ⟨rfl, rfl, rfl⟩ := ht
  split at hv
  case h_2 => exact (run_fail hv).elim
  rename_i a0 a1 a2 hrow
  simp only [LRel, VRel] at hl
  obtain ⟨u1, us1, rfl, rfl, u2, us2, rfl, ⟨u3, rfl, b, C, hι, rfl⟩, rfl⟩ := hl
  have hid := rowAt_live (ownF := own) (fun _ _ => rfl) hrow rfl
  rcases hR.blk id _ (hR.there hι) hid rfl with ⟨b', C', e1, ⟨vs, e, fz, k1, k2, k3⟩, _⟩ | ⟨e1, _⟩
  case inr => rw [hι] at e1; cases e1
  rw [hι] at e1; cases e1
  simp only [LRel] at k2
  obtain ⟨o0, ws0, rfl, j0, o1, ws1, rfl, j1, o2, ws2, rfl, j2, rfl⟩ := k2
  have hv : (if x.isFault = true then some (AV.tt, own.set id (.cells [.it .i64 x.faultC, .it .i64 x.faultL, .er 86 34 x.faultE])) else some (AV.ff, own)) = some (v, own') := hv
  cases x with
  | nil =>
    have hv : some (AV.ff, own) = some (v, own') := hv
    cases hv
    refine (As.as_nil _ w).mono ?_
    rintro ev w' ⟨rfl, rfl⟩
    exact ⟨_, r, rfl, .refl r, hR, by simp only [VRel]⟩
  | code n =>
    have hv : some (AV.ff, own) = some (v, own') := hv
    cases hv
    refine (As.miss43 n ⟨b, 0, none⟩ w hg).mono ?_
    rintro ev w' ⟨rfl, hb⟩
    exact ⟨_, r, rfl, .refl r, below_rel hR hb, by simp only [VRel]⟩
  | fault c l y =>
    have hv : some (AV.tt, own.set id (.cells [.it .i64 c, .it .i64 l, .er 86 34 y])) = some (v, own') := hv
    cases hv
    refine (As.as_hit43 c l (errVal 86 34 y) b o0 o1 o2 w (err_one 86 34 y) hg k3 k1).mono ?_
    rintro ev w' ⟨rfl, rfl⟩
    have hR2 := below_rel hR (As.four w (.cells #[.pointer (some ⟨b, 0, none⟩)] 88) (.cells #[.pointer (some ⟨4, 88, none⟩), .pointer (some ⟨w.heap.size, 0, none⟩), .int .u64 150] 117) (.cells #[.pointer (some ⟨4, 88, none⟩), .pointer (some ⟨w.heap.size, 0, none⟩), .int .u64 150] 117) (.cells #[.int .i64 c, .int .i64 l, errVal 86 34 y] 86))
    have hk : (World.heap _)[b]? = some (.cells [o0, o1, o2].toArray e fz) := ((As.four w (.cells #[.pointer (some ⟨b, 0, none⟩)] 88) (.cells #[.pointer (some ⟨4, 88, none⟩), .pointer (some ⟨w.heap.size, 0, none⟩), .int .u64 150] 117) (.cells #[.pointer (some ⟨4, 88, none⟩), .pointer (some ⟨w.heap.size, 0, none⟩), .int .u64 150] 117) (.cells #[.int .i64 c, .int .i64 l, errVal 86 34 y] 86)).block b (Array.getElem?_eq_some_iff.1 k1).1).trans k1
    refine ⟨_, r, rfl, .refl r, hR2.write hid rfl hι ⟨[.int .i64 c, .int .i64 l, errVal 86 34 y], e, fz, setBlk_at hk, ?_, k3⟩, by simp only [VRel]⟩
    simp only [LRel, VRel]
    exact ⟨_, _, rfl, rfl, _, _, rfl, rfl, _, _, rfl, rfl, rfl⟩
end Go.Proofs.Pen

namespace Go.Proofs.Pen
open Go Go.Proofs
abbrev TI : Ty := (.int .i64)
abbrev TE : Ty := (.er 86 34)
abbrev TF : Ty := (.st (.pair (.int .i64) (.pair (.int .i64) (.er 86 34))))
abbrev TP : Ty := (.st (.pair (.int .i64) (.pair (.int .i64) (.int .i64))))
abbrev TLitD : Ty := (.st (.pair (.int .i64) (.st (.pair (.int .i64) (.pair (.int .i64) (.int .i64))))))
abbrev TMatD : Ty := (.st (.pair (.st (.pair (.int .i64) (.pair (.int .i64) (.int .i64)))) (.pair (.st (.pair (.int .i64) (.pair (.int .i64) (.int .i64)))) (.int .i64))))
abbrev TTriD : Ty := (.st (.pair (.st (.pair (.int .i64) (.pair (.int .i64) (.int .i64)))) (.pair (.st (.pair (.int .i64) (.pair (.int .i64) (.int .i64)))) (.pair (.st (.pair (.int .i64) (.pair (.int .i64) (.int .i64)))) (.int .i64)))))
abbrev TCam : Ty := (.st (.pair (.st (.pair (.int .i64) (.pair (.int .i64) (.int .i64)))) (.pair (.st (.pair (.int .i64) (.pair (.int .i64) (.int .i64)))) (.pair (.st (.pair (.int .i64) (.pair (.int .i64) (.int .i64)))) (.pair (.int .i64) (.pair (.int .i64) (.int .i64)))))))
abbrev TScn : Ty := (.st (.pair (.sl (.st (.pair (.st (.pair (.int .i64) (.pair (.int .i64) (.int .i64)))) (.pair (.st (.pair (.int .i64) (.pair (.int .i64) (.int .i64)))) (.int .i64))))) (.pair (.sl (.st (.pair (.st (.pair (.int .i64) (.pair (.int .i64) (.int .i64)))) (.pair (.st (.pair (.int .i64) (.pair (.int .i64) (.int .i64)))) (.pair (.st (.pair (.int .i64) (.pair (.int .i64) (.int .i64)))) (.int .i64)))))) (.pair (.sl (.st (.pair (.int .i64) (.st (.pair (.int .i64) (.pair (.int .i64) (.int .i64))))))) (.pair (.int .i64) (.pair (.sl (.st (.pair (.int .i64) (.pair (.int .i64) (.int .i64))))) (.pair (.st (.pair (.st (.pair (.int .i64) (.pair (.int .i64) (.int .i64)))) (.pair (.st (.pair (.int .i64) (.pair (.int .i64) (.int .i64)))) (.pair (.st (.pair (.int .i64) (.pair (.int .i64) (.int .i64)))) (.pair (.int .i64) (.pair (.int .i64) (.int .i64))))))) (.pair (.int .i64) (.int .i64)))))))))
theorem mixed : Tryz.prog.follows .mixedOrders = true := by kernel_rfl
theorem xTO : ExOK Tryz.prog 68 (typeOfAV 149 Tryz.prog.globals.size) := typeOf_ok (by intros; kernel_rfl) (by intros; kernel_rfl)
theorem xCM : ExOK Tryz.prog 162 (comparableAV Tryz.prog.globals.size [34]) := comparable_ok (by intro t h w; rw [show t = 34 by simpa using h]; kernel_rfl)
noncomputable def Xs : Nat → List AV → T AV := ext (ext (ext (ext (ext (ext (ext (ext (ext (ext noQ 68 (typeOfAV 149 Tryz.prog.globals.size)) 162 (comparableAV Tryz.prog.globals.size [34])) 19 codeAV) 67 trimAV) 97 cutPrefixAV) 98 repeatAV) 110 indexAV1) 94 countAV1) 74 fieldsAV) 93 failAV
theorem Xok : QuietOK Tryz.prog Xs := quiet_ext (quiet_ext (quiet_ext (quiet_ext (quiet_ext (quiet_ext (quiet_ext (quiet_ext (quiet_extE (quiet_extE (quiet_none _) xTO) xCM) code_ok) trim_ok) cutPrefix_ok) repeat_ok) index_ok) count_ok) fields_ok) fail_ok
noncomputable def tb : DTab := tbExt tbNone 34 asD
theorem tbOk : TBOK Tryz.prog tb := tb_ext (tb_none _) as_deep
end Go.Proofs.Pen

namespace Go.Proofs.Pen
open Go Go.Proofs
def lex_digits.L0 : List (Nat × Lay) := [(0, .val TI), (1, .val TI), (5, .row (.int .u8))]
noncomputable def lex_digits.t0 (x : Int × Int × List Int × Unit) : T (Ex × Int × Int × List Int × Unit) := T.ite (decide (x.1 > (0 : Int)) || decide ((↑x.2.2.1.length : Int) < x.2.1)) (T.ite (decide ((x.2.2.1.length + (1 : Nat)) * nat_lit 1 ≤ most)) (T.ret (Ex.normal, W (Int.tdiv x.1 (10 : Int)), x.2.1, List.take (x.2.2.1.length + (1 : Nat)) (List.take x.2.2.1.length x.2.2.1 ++ [IntKind.u8.wrap (W ((48 : Int) + Int.tmod x.1 (10 : Int)))]), ())) T.fail) (T.ret (Ex.exit (0 : Nat), x.1, x.2.1, List.take x.2.2.1.length x.2.2.1, ()))
noncomputable def lex_digits.l0 (x : Int × Int × List Int × Unit) : Option (Ex × Int × Int × List Int × Unit) := (iterT lex_digits.t0 rounds x).run
theorem lex_digits.k0 : bodies 0 (lp Tryz.f66 []) = [.loop (loopIn 0 (lp Tryz.f66 []))] ∧ WP Tryz.prog 0 (.block 0 (.loop (loopIn 0 (lp Tryz.f66 [])))) (loopS lex_digits.L0 52 0 [.exit 0] lex_digits.l0) :=
  loop_tree (L := lex_digits.L0) (F := ({ quiet := Xs, deep := noDeep } : Fns)) (D := D0) (tab := []) (t := lex_digits.t0) mixed Xok (deep_none _) (fun _ => rfl) (by kernel_rfl) (by kernel_rfl) trivial (fun x => by kernel_rfl)
def lex_digits.L2 : List (Nat × Lay) := [(5, .row (.int .u8)), (6, .val TI), (7, .val TI)]
noncomputable def lex_digits.t2 (x : List Int × Int × Int × Unit) : T (Ex × List Int × Int × Int × Unit) := T.ite (decide (x.2.1 < x.2.2.1)) (T.ite (decide ((0 : Int) ≤ x.2.2.1) && decide (x.2.2.1 < (↑x.1.length : Int))) (T.opt x.1[(0 : Nat) + Int.toNat x.2.2.1]? fun y => T.ite (decide ((0 : Int) ≤ x.2.1) && decide (x.2.1 < (↑x.1.length : Int))) (T.opt x.1[(0 : Nat) + Int.toNat x.2.1]? fun y_1 => T.ite (decide ((0 : Int) ≤ x.2.1) && decide (x.2.1 < (↑x.1.length : Int))) (T.opt x.1[(0 : Nat) + Int.toNat x.2.1]? fun y_2 => T.ite (decide ((0 : Int) ≤ x.2.2.1) && decide (x.2.2.1 < (↑x.1.length : Int))) (T.opt (x.1.set ((0 : Nat) + Int.toNat x.2.1) y)[(0 : Nat) + Int.toNat x.2.2.1]? fun y_3 => T.ret (Ex.normal, List.take x.1.length ((x.1.set ((0 : Nat) + Int.toNat x.2.1) y).set ((0 : Nat) + Int.toNat x.2.2.1) y_1), W (x.2.1 + (1 : Int)), W (x.2.2.1 - (1 : Int)), ())) T.fail) T.fail) T.fail) T.fail) (T.ret (Ex.exit (2 : Nat), List.take x.1.length x.1, x.2.1, x.2.2.1, ()))
noncomputable def lex_digits.l2 (x : List Int × Int × Int × Unit) : Option (Ex × List Int × Int × Int × Unit) := (iterT lex_digits.t2 rounds x).run
theorem lex_digits.k2 : bodies 2 (lp Tryz.f66 []) = [.loop (loopIn 2 (lp Tryz.f66 []))] ∧ WP Tryz.prog 0 (.block 2 (.loop (loopIn 2 (lp Tryz.f66 [])))) (loopS lex_digits.L2 52 2 [.exit 2] lex_digits.l2) :=
  loop_tree (L := lex_digits.L2) (F := ({ quiet := Xs, deep := noDeep } : Fns)) (D := D0) (tab := []) (t := lex_digits.t2) mixed Xok (deep_none _) (fun _ => rfl) (by kernel_rfl) (by kernel_rfl) trivial (fun x => by kernel_rfl)
noncomputable def lex_digits.t (x : Int × Int) : T (ByteArray) := T.ite (decide ((0 : Int) ≤ (0 : Int)) && decide ((0 : Int) ≤ (16 : Int)) && decide ((16 : Int) * (↑(nat_lit 1) : Int) ≤ (↑most : Int)) && decide ((16 : Int) ≤ (↑most : Int))) (T.opt (lex_digits.l0 (x.1, x.2, List.take (Int.toNat (0 : Int)) (List.replicate (Int.toNat (16 : Int)) (0 : Int)), ())) fun y => T.ite (exEq y.1 (Ex.exit (0 : Nat))) (T.opt (lex_digits.l2 (List.take y.2.2.2.1.length y.2.2.2.1, (0 : Int), W ((↑y.2.2.2.1.length : Int) - (1 : Int)), ())) fun y => T.ite (exEq y.1 (Ex.exit (2 : Nat))) (T.ret (ofBytes (List.take y.2.1.length y.2.1))) T.fail) T.fail) T.fail
noncomputable def lex_digits (x : Int × Int) : Option (ByteArray) := (lex_digits.t x).run
noncomputable def lex_digits.q : List AV → T AV := entry [TI, TI] (outR [.str]) fun x => .opt (lex_digits x) .ret
theorem lex_digits.ok : FnOK Tryz.prog 66 lex_digits.q :=
  entry_call (ps := [TI, TI]) (rs := [.str]) (F := ({ quiet := Xs, deep := noDeep } : Fns)) (D := D0) (S := tabS [(0, loopS lex_digits.L0 52 0 [.exit 0] lex_digits.l0), (2, loopS lex_digits.L2 52 2 [.exit 2] lex_digits.l2)]) (t := lex_digits.t) mixed Xok (deep_none _) Tryz.func66 (by kernel_rfl) (sok_fn ⟨lex_digits.k0, lex_digits.k2, trivial⟩) (by kernel_rfl) (fun x => by kernel_rfl)
end Go.Proofs.Pen

namespace Go.Proofs.Pen
open Go Go.Proofs
noncomputable def dig0.t (x : Int) : T (ByteArray) := T.ite (decide (x < (10 : Int))) (T.ite (decide ((0 : Int) ≤ x) && decide (x ≤ W (x + (1 : Int))) && decide (W (x + (1 : Int)) ≤ (↑(ByteArray.mk #[48, 49, 50, 51, 52, 53, 54, 55, 56, 57]).size : Int))) (T.ret ((ByteArray.mk #[48, 49, 50, 51, 52, 53, 54, 55, 56, 57]).extract (Int.toNat x) (W (x + (1 : Int))).toNat)) T.fail) T.fail
noncomputable def dig0 (x : Int) : Option (ByteArray) := (dig0.t x).run
noncomputable def dig0.q : List AV → T AV := entry [TI] (outR [.str]) fun x => .opt (dig0 x) .ret
theorem dig0.ok : FnOK Tryz.prog 29 dig0.q :=
  entry_call (ps := [TI]) (rs := [.str]) (F := ({ quiet := Xs, deep := noDeep } : Fns)) (D := D0) (S := tabS []) (t := dig0.t) mixed Xok (deep_none _) Tryz.func29 (by kernel_rfl) (sok_fn trivial) (by kernel_rfl) (fun x => by kernel_rfl)
end Go.Proofs.Pen

namespace Go.Proofs.Pen
open Go Go.Proofs
noncomputable def dig1.t (x : Int) : T (ByteArray) := T.ite (decide (x < (10 : Int))) (T.ite (decide ((0 : Int) ≤ x) && decide (x ≤ W (x + (1 : Int))) && decide (W (x + (1 : Int)) ≤ (↑(ByteArray.mk #[48, 49, 50, 51, 52, 53, 54, 55, 56, 57]).size : Int))) (T.ret ((ByteArray.mk #[48, 49, 50, 51, 52, 53, 54, 55, 56, 57]).extract (Int.toNat x) (W (x + (1 : Int))).toNat)) T.fail) (T.opt (dig0 (W (Int.tdiv x (10 : Int)))) fun y => T.opt (dig0 (Int.tmod x (10 : Int))) fun y_1 => T.ite (decide ((↑(y.size + y_1.size) : Int) > IntKind.i64.max)) T.fail (T.ret (y ++ y_1)))
noncomputable def dig1 (x : Int) : Option (ByteArray) := (dig1.t x).run
noncomputable def dig1.q : List AV → T AV := entry [TI] (outR [.str]) fun x => .opt (dig1 x) .ret
theorem dig1.ok : FnOK Tryz.prog 29 dig1.q :=
  entry_call (ps := [TI]) (rs := [.str]) (F := ({ quiet := (ext Xs 29 dig0.q), deep := noDeep } : Fns)) (D := D0) (S := tabS []) (t := dig1.t) mixed (quiet_ext Xok dig0.ok) (deep_none _) Tryz.func29 (by kernel_rfl) (sok_fn trivial) (by kernel_rfl) (fun x => by kernel_rfl)
end Go.Proofs.Pen

namespace Go.Proofs.Pen
open Go Go.Proofs
noncomputable def dig2.t (x : Int) : T (ByteArray) := T.ite (decide (x < (10 : Int))) (T.ite (decide ((0 : Int) ≤ x) && decide (x ≤ W (x + (1 : Int))) && decide (W (x + (1 : Int)) ≤ (↑(ByteArray.mk #[48, 49, 50, 51, 52, 53, 54, 55, 56, 57]).size : Int))) (T.ret ((ByteArray.mk #[48, 49, 50, 51, 52, 53, 54, 55, 56, 57]).extract (Int.toNat x) (W (x + (1 : Int))).toNat)) T.fail) (T.opt (dig1 (W (Int.tdiv x (10 : Int)))) fun y => T.opt (dig1 (Int.tmod x (10 : Int))) fun y_1 => T.ite (decide ((↑(y.size + y_1.size) : Int) > IntKind.i64.max)) T.fail (T.ret (y ++ y_1)))
noncomputable def dig2 (x : Int) : Option (ByteArray) := (dig2.t x).run
noncomputable def dig2.q : List AV → T AV := entry [TI] (outR [.str]) fun x => .opt (dig2 x) .ret
theorem dig2.ok : FnOK Tryz.prog 29 dig2.q :=
  entry_call (ps := [TI]) (rs := [.str]) (F := ({ quiet := (ext Xs 29 dig1.q), deep := noDeep } : Fns)) (D := D0) (S := tabS []) (t := dig2.t) mixed (quiet_ext Xok dig1.ok) (deep_none _) Tryz.func29 (by kernel_rfl) (sok_fn trivial) (by kernel_rfl) (fun x => by kernel_rfl)
end Go.Proofs.Pen

namespace Go.Proofs.Pen
open Go Go.Proofs
noncomputable def dig3.t (x : Int) : T (ByteArray) := T.ite (decide (x < (10 : Int))) (T.ite (decide ((0 : Int) ≤ x) && decide (x ≤ W (x + (1 : Int))) && decide (W (x + (1 : Int)) ≤ (↑(ByteArray.mk #[48, 49, 50, 51, 52, 53, 54, 55, 56, 57]).size : Int))) (T.ret ((ByteArray.mk #[48, 49, 50, 51, 52, 53, 54, 55, 56, 57]).extract (Int.toNat x) (W (x + (1 : Int))).toNat)) T.fail) (T.opt (dig2 (W (Int.tdiv x (10 : Int)))) fun y => T.opt (dig2 (Int.tmod x (10 : Int))) fun y_1 => T.ite (decide ((↑(y.size + y_1.size) : Int) > IntKind.i64.max)) T.fail (T.ret (y ++ y_1)))
noncomputable def dig3 (x : Int) : Option (ByteArray) := (dig3.t x).run
noncomputable def dig3.q : List AV → T AV := entry [TI] (outR [.str]) fun x => .opt (dig3 x) .ret
theorem dig3.ok : FnOK Tryz.prog 29 dig3.q :=
  entry_call (ps := [TI]) (rs := [.str]) (F := ({ quiet := (ext Xs 29 dig2.q), deep := noDeep } : Fns)) (D := D0) (S := tabS []) (t := dig3.t) mixed (quiet_ext Xok dig2.ok) (deep_none _) Tryz.func29 (by kernel_rfl) (sok_fn trivial) (by kernel_rfl) (fun x => by kernel_rfl)
end Go.Proofs.Pen

namespace Go.Proofs.Pen
open Go Go.Proofs
noncomputable def dig4.t (x : Int) : T (ByteArray) := T.ite (decide (x < (10 : Int))) (T.ite (decide ((0 : Int) ≤ x) && decide (x ≤ W (x + (1 : Int))) && decide (W (x + (1 : Int)) ≤ (↑(ByteArray.mk #[48, 49, 50, 51, 52, 53, 54, 55, 56, 57]).size : Int))) (T.ret ((ByteArray.mk #[48, 49, 50, 51, 52, 53, 54, 55, 56, 57]).extract (Int.toNat x) (W (x + (1 : Int))).toNat)) T.fail) (T.opt (dig3 (W (Int.tdiv x (10 : Int)))) fun y => T.opt (dig3 (Int.tmod x (10 : Int))) fun y_1 => T.ite (decide ((↑(y.size + y_1.size) : Int) > IntKind.i64.max)) T.fail (T.ret (y ++ y_1)))
noncomputable def dig4 (x : Int) : Option (ByteArray) := (dig4.t x).run
noncomputable def dig4.q : List AV → T AV := entry [TI] (outR [.str]) fun x => .opt (dig4 x) .ret
theorem dig4.ok : FnOK Tryz.prog 29 dig4.q :=
  entry_call (ps := [TI]) (rs := [.str]) (F := ({ quiet := (ext Xs 29 dig3.q), deep := noDeep } : Fns)) (D := D0) (S := tabS []) (t := dig4.t) mixed (quiet_ext Xok dig3.ok) (deep_none _) Tryz.func29 (by kernel_rfl) (sok_fn trivial) (by kernel_rfl) (fun x => by kernel_rfl)
end Go.Proofs.Pen

namespace Go.Proofs.Pen
open Go Go.Proofs
noncomputable def dig5.t (x : Int) : T (ByteArray) := T.ite (decide (x < (10 : Int))) (T.ite (decide ((0 : Int) ≤ x) && decide (x ≤ W (x + (1 : Int))) && decide (W (x + (1 : Int)) ≤ (↑(ByteArray.mk #[48, 49, 50, 51, 52, 53, 54, 55, 56, 57]).size : Int))) (T.ret ((ByteArray.mk #[48, 49, 50, 51, 52, 53, 54, 55, 56, 57]).extract (Int.toNat x) (W (x + (1 : Int))).toNat)) T.fail) (T.opt (dig4 (W (Int.tdiv x (10 : Int)))) fun y => T.opt (dig4 (Int.tmod x (10 : Int))) fun y_1 => T.ite (decide ((↑(y.size + y_1.size) : Int) > IntKind.i64.max)) T.fail (T.ret (y ++ y_1)))
noncomputable def dig5 (x : Int) : Option (ByteArray) := (dig5.t x).run
noncomputable def dig5.q : List AV → T AV := entry [TI] (outR [.str]) fun x => .opt (dig5 x) .ret
theorem dig5.ok : FnOK Tryz.prog 29 dig5.q :=
  entry_call (ps := [TI]) (rs := [.str]) (F := ({ quiet := (ext Xs 29 dig4.q), deep := noDeep } : Fns)) (D := D0) (S := tabS []) (t := dig5.t) mixed (quiet_ext Xok dig4.ok) (deep_none _) Tryz.func29 (by kernel_rfl) (sok_fn trivial) (by kernel_rfl) (fun x => by kernel_rfl)
end Go.Proofs.Pen

namespace Go.Proofs.Pen
open Go Go.Proofs
noncomputable def dig6.t (x : Int) : T (ByteArray) := T.ite (decide (x < (10 : Int))) (T.ite (decide ((0 : Int) ≤ x) && decide (x ≤ W (x + (1 : Int))) && decide (W (x + (1 : Int)) ≤ (↑(ByteArray.mk #[48, 49, 50, 51, 52, 53, 54, 55, 56, 57]).size : Int))) (T.ret ((ByteArray.mk #[48, 49, 50, 51, 52, 53, 54, 55, 56, 57]).extract (Int.toNat x) (W (x + (1 : Int))).toNat)) T.fail) (T.opt (dig5 (W (Int.tdiv x (10 : Int)))) fun y => T.opt (dig5 (Int.tmod x (10 : Int))) fun y_1 => T.ite (decide ((↑(y.size + y_1.size) : Int) > IntKind.i64.max)) T.fail (T.ret (y ++ y_1)))
noncomputable def dig6 (x : Int) : Option (ByteArray) := (dig6.t x).run
noncomputable def dig6.q : List AV → T AV := entry [TI] (outR [.str]) fun x => .opt (dig6 x) .ret
theorem dig6.ok : FnOK Tryz.prog 29 dig6.q :=
  entry_call (ps := [TI]) (rs := [.str]) (F := ({ quiet := (ext Xs 29 dig5.q), deep := noDeep } : Fns)) (D := D0) (S := tabS []) (t := dig6.t) mixed (quiet_ext Xok dig5.ok) (deep_none _) Tryz.func29 (by kernel_rfl) (sok_fn trivial) (by kernel_rfl) (fun x => by kernel_rfl)
end Go.Proofs.Pen

namespace Go.Proofs.Pen
open Go Go.Proofs
noncomputable def dig7.t (x : Int) : T (ByteArray) := T.ite (decide (x < (10 : Int))) (T.ite (decide ((0 : Int) ≤ x) && decide (x ≤ W (x + (1 : Int))) && decide (W (x + (1 : Int)) ≤ (↑(ByteArray.mk #[48, 49, 50, 51, 52, 53, 54, 55, 56, 57]).size : Int))) (T.ret ((ByteArray.mk #[48, 49, 50, 51, 52, 53, 54, 55, 56, 57]).extract (Int.toNat x) (W (x + (1 : Int))).toNat)) T.fail) (T.opt (dig6 (W (Int.tdiv x (10 : Int)))) fun y => T.opt (dig6 (Int.tmod x (10 : Int))) fun y_1 => T.ite (decide ((↑(y.size + y_1.size) : Int) > IntKind.i64.max)) T.fail (T.ret (y ++ y_1)))
noncomputable def dig7 (x : Int) : Option (ByteArray) := (dig7.t x).run
noncomputable def dig7.q : List AV → T AV := entry [TI] (outR [.str]) fun x => .opt (dig7 x) .ret
theorem dig7.ok : FnOK Tryz.prog 29 dig7.q :=
  entry_call (ps := [TI]) (rs := [.str]) (F := ({ quiet := (ext Xs 29 dig6.q), deep := noDeep } : Fns)) (D := D0) (S := tabS []) (t := dig7.t) mixed (quiet_ext Xok dig6.ok) (deep_none _) Tryz.func29 (by kernel_rfl) (sok_fn trivial) (by kernel_rfl) (fun x => by kernel_rfl)
end Go.Proofs.Pen

namespace Go.Proofs.Pen
open Go Go.Proofs
noncomputable def dig8.t (x : Int) : T (ByteArray) := T.ite (decide (x < (10 : Int))) (T.ite (decide ((0 : Int) ≤ x) && decide (x ≤ W (x + (1 : Int))) && decide (W (x + (1 : Int)) ≤ (↑(ByteArray.mk #[48, 49, 50, 51, 52, 53, 54, 55, 56, 57]).size : Int))) (T.ret ((ByteArray.mk #[48, 49, 50, 51, 52, 53, 54, 55, 56, 57]).extract (Int.toNat x) (W (x + (1 : Int))).toNat)) T.fail) (T.opt (dig7 (W (Int.tdiv x (10 : Int)))) fun y => T.opt (dig7 (Int.tmod x (10 : Int))) fun y_1 => T.ite (decide ((↑(y.size + y_1.size) : Int) > IntKind.i64.max)) T.fail (T.ret (y ++ y_1)))
noncomputable def dig8 (x : Int) : Option (ByteArray) := (dig8.t x).run
noncomputable def dig8.q : List AV → T AV := entry [TI] (outR [.str]) fun x => .opt (dig8 x) .ret
theorem dig8.ok : FnOK Tryz.prog 29 dig8.q :=
  entry_call (ps := [TI]) (rs := [.str]) (F := ({ quiet := (ext Xs 29 dig7.q), deep := noDeep } : Fns)) (D := D0) (S := tabS []) (t := dig8.t) mixed (quiet_ext Xok dig7.ok) (deep_none _) Tryz.func29 (by kernel_rfl) (sok_fn trivial) (by kernel_rfl) (fun x => by kernel_rfl)
end Go.Proofs.Pen

namespace Go.Proofs.Pen
open Go Go.Proofs
noncomputable def dig9.t (x : Int) : T (ByteArray) := T.ite (decide (x < (10 : Int))) (T.ite (decide ((0 : Int) ≤ x) && decide (x ≤ W (x + (1 : Int))) && decide (W (x + (1 : Int)) ≤ (↑(ByteArray.mk #[48, 49, 50, 51, 52, 53, 54, 55, 56, 57]).size : Int))) (T.ret ((ByteArray.mk #[48, 49, 50, 51, 52, 53, 54, 55, 56, 57]).extract (Int.toNat x) (W (x + (1 : Int))).toNat)) T.fail) (T.opt (dig8 (W (Int.tdiv x (10 : Int)))) fun y => T.opt (dig8 (Int.tmod x (10 : Int))) fun y_1 => T.ite (decide ((↑(y.size + y_1.size) : Int) > IntKind.i64.max)) T.fail (T.ret (y ++ y_1)))
noncomputable def dig9 (x : Int) : Option (ByteArray) := (dig9.t x).run
noncomputable def dig9.q : List AV → T AV := entry [TI] (outR [.str]) fun x => .opt (dig9 x) .ret
theorem dig9.ok : FnOK Tryz.prog 29 dig9.q :=
  entry_call (ps := [TI]) (rs := [.str]) (F := ({ quiet := (ext Xs 29 dig8.q), deep := noDeep } : Fns)) (D := D0) (S := tabS []) (t := dig9.t) mixed (quiet_ext Xok dig8.ok) (deep_none _) Tryz.func29 (by kernel_rfl) (sok_fn trivial) (by kernel_rfl) (fun x => by kernel_rfl)
end Go.Proofs.Pen

namespace Go.Proofs.Pen
open Go Go.Proofs

def B (l : List UInt8) : ByteArray := ⟨l.toArray⟩
theorem B_size (l : List UInt8) : (B l).size = l.length := by simp [B, ByteArray.size]
theorem B_app (l m : List UInt8) : B l ++ B m = B (l ++ m) := by
  apply ByteArray.ext
  simp [B]
theorem B_data (l : List UInt8) : (B l).data.toList = l := by simp [B]
theorem B_toList (l : List UInt8) : (B l).toList = l := by rw [ByteArray.toList_eq, B_data]
theorem B_self (s : ByteArray) : B s.data.toList = s := by simp [B]
theorem B_extract (l : List UInt8) (i j : Nat) : (B l).extract i j = B ((l.take j).drop i) := by
  apply ByteArray.ext
  simp [B, ByteArray.data_extract, List.drop_take]
theorem sget_B (l : List UInt8) (i : Nat) : sget (B l) (i : Int) = (l[i]?).map fun b => (b.toNat : Int) := by
  unfold sget
  rw [if_neg (by omega), Int.toNat_natCast]
  congr 1
  by_cases h : i < l.length
  · rw [getElem?_pos (B l) i (by rw [B_size]; exact h), List.getElem?_eq_getElem h]; simp [B, ByteArray.getElem_eq_getElem_data]
  · rw [getElem?_neg (B l) i (by rw [B_size]; exact h), List.getElem?_eq_none (by omega)]

def dg (d : Nat) : UInt8 := UInt8.ofNat (48 + d)
theorem dg_nat {d : Nat} (h : d < 10) : (dg d).toNat = 48 + d := by
  unfold dg
  rw [UInt8.toNat_ofNat']
  omega

def rdig : Nat → Nat → Nat → List Nat
  | 0, _, _ => []
  | f + 1, n, k => if n = 0 ∧ k = 0 then [] else n % 10 :: rdig f (n / 10) (k - 1)

theorem rdig_nil (f : Nat) : rdig f 0 0 = [] := by cases f <;> simp [rdig]
theorem rdig_one {f n : Nat} (h : 0 < n) : rdig f n 0 = rdig f n 1 := by
  cases f with
  | zero => rfl
  | succ f => simp only [rdig]; rw [if_neg (by omega), if_neg (by omega)]
theorem rdig_lt : ∀ (f n k : Nat), ∀ d ∈ rdig f n k, d < 10
  | 0, _, _ => by simp [rdig]
  | f + 1, n, k => by
    simp only [rdig]
    split
    · simp
    · intro d hd
      rcases List.mem_cons.1 hd with rfl | h
      · omega
      · exact rdig_lt f _ _ d h
theorem rdig_len : ∀ (f n k : Nat), (rdig f n k).length ≤ f
  | 0, _, _ => by simp [rdig]
  | f + 1, n, k => by
    simp only [rdig]
    split
    · simp
    · have := rdig_len f (n / 10) (k - 1)
      simp only [List.length_cons]; omega
theorem rdig_pos (f n : Nat) : 0 < (rdig (f + 1) n 1).length := by
  simp only [rdig]; rw [if_neg (by omega)]; simp

theorem digits0 (L : Nat) : ∀ (f n : Nat) (b : List Int) (m : Nat), n < 10 ^ f → L - b.length ≤ f → b.length + f ≤ 30 → n < 2 ^ 62 → f < m →
    (iterT lex_digits.t0 m ((n : Int), (L : Int), b, ())).run = some (.exit 0, 0, (L : Int), b ++ (rdig f n (L - b.length)).map (fun d : Nat => (48 + (d : Int))), ())
  | f, n, b, 0, _, _, _, _, hm => absurd hm (Nat.not_lt_zero _)
  | 0, n, b, m + 1, hn, hk, hl, hb, hm => by
    have hn0 : n = 0 := by simpa using hn
    subst hn0
    have e : (lex_digits.t0 (((0 : Nat) : Int), (L : Int), b, ())).run = some (.exit 0, 0, (L : Int), b, ()) := by
      unfold lex_digits.t0
      rw [tr_ite, if_neg (by simp; omega), tr_ret]
      simp
    rw [iter_step e]
    simp [rdig]
  | f + 1, n, b, m + 1, hn, hk, hl, hb, hm => by
    by_cases hc : n = 0 ∧ L - b.length = 0
    · obtain ⟨rfl, h2⟩ := hc
      have e : (lex_digits.t0 (((0 : Nat) : Int), (L : Int), b, ())).run = some (.exit 0, 0, (L : Int), b, ()) := by
        unfold lex_digits.t0
        rw [tr_ite, if_neg (by simp; omega), tr_ret]
        simp
      rw [iter_step e, h2]
      simp [rdig]
    · have e : (lex_digits.t0 ((n : Int), (L : Int), b, ())).run = some (.normal, ((n / 10 : Nat) : Int), (L : Int), b ++ [(48 + (n % 10 : Nat) : Int)], ()) := by
        unfold lex_digits.t0
        dsimp only
        rw [tr_ite, if_pos (by simp; omega), tr_ite, if_pos (by rw [decide_eq_true_eq]; exact room (by omega) (by omega)), tr_ret]
        have e1 : W ((n : Int).tdiv 10) = ((n / 10 : Nat) : Int) := by
          rw [show (n : Int).tdiv 10 = ((n / 10 : Nat) : Int) by rw [Int.tdiv_eq_ediv_of_nonneg (by omega)]; omega]
          exact W_id (by omega) (by omega)
        have e2 : IntKind.u8.wrap (W (48 + (n : Int).tmod 10)) = (48 + (n % 10 : Nat) : Int) := by
          rw [show (n : Int).tmod 10 = ((n % 10 : Nat) : Int) by rw [Int.tmod_eq_emod_of_nonneg (by omega)]; omega]
          rw [W_id (by omega) (by omega)]
          have : (48 + ((n % 10 : Nat) : Int)) = ((48 + n % 10 : Nat) : Int) := by omega
          rw [this]
          have h : 48 + n % 10 < 256 := by omega
          have hw : ∀ z : Int, 0 ≤ z → z < 256 → IntKind.u8.wrap z = z := fun z h0 h1 => by
            show z % 256 = z
            omega
          exact hw _ (by omega) (by omega)
        rw [e1, e2, take_all]
      rw [iter_step e]
      have ih := digits0 L f (n / 10) (b ++ [(48 + (n % 10 : Nat) : Int)]) m (by rw [Nat.div_lt_iff_lt_mul (by omega)]; rw [Nat.pow_succ] at hn; exact hn) (by simp; omega) (by simp; omega) (by omega) (by omega)
      show (iterT lex_digits.t0 m (((n / 10 : Nat) : Int), (L : Int), b ++ [(48 + (n % 10 : Nat) : Int)], ())).run = _
      rw [ih]
      simp only [rdig, if_neg hc, List.length_append, List.length_cons, List.length_nil, List.map_cons, List.append_assoc, List.cons_append, List.nil_append]
      rfl
end Go.Proofs.Pen

namespace Go.Proofs.Pen
open Go Go.Proofs

theorem tr_yes {α : Type} {b : Bool} {x y : T α} (h : b = true) : (T.ite b x y).run = x.run := by rw [tr_ite, if_pos h]
theorem tr_no {α : Type} {b : Bool} {x y : T α} (h : b = false) : (T.ite b x y).run = y.run := by rw [tr_ite, h, if_neg (by simp)]

theorem swap_step (pre mid post : List Int) (x y : Int) : (lex_digits.t2 (pre ++ (x :: (mid ++ [y])) ++ post, (pre.length : Int), ((pre.length + mid.length + 1 : Nat) : Int), ())).run =
    some (.normal, (pre ++ [y]) ++ mid ++ ([x] ++ post), W ((pre.length : Int) + 1), W (((pre.length + mid.length + 1 : Nat) : Int) - 1), ()) := by
  have hl : (pre ++ (x :: (mid ++ [y])) ++ post).length = pre.length + mid.length + 2 + post.length := by simp; omega
  have h1 : (pre ++ (x :: (mid ++ [y])) ++ post)[pre.length]? = some x := by simp
  have h2 : (pre ++ (x :: (mid ++ [y])) ++ post)[pre.length + mid.length + 1]? = some y := by
    rw [show pre ++ (x :: (mid ++ [y])) ++ post = (pre ++ (x :: mid)) ++ (y :: post) by simp]
    rw [List.getElem?_append_right (by simp; omega)]
    simp; rw [show pre.length + mid.length + 1 - (pre.length + (mid.length + 1)) = 0 by omega]; rfl
  have h3 : (pre ++ (x :: (mid ++ [y])) ++ post).set pre.length y = (pre ++ [y]) ++ mid ++ (y :: post) := by
    rw [List.append_assoc, List.set_append_right _ _ (by omega), Nat.sub_self]; simp
  have h4 : ((pre ++ [y]) ++ mid ++ (y :: post))[pre.length + mid.length + 1]? = some y := by
    rw [List.getElem?_append_right (by simp; omega)]
    simp; rw [show pre.length + mid.length + 1 - (pre.length + (mid.length + 1)) = 0 by omega]; rfl
  have h5 : ((pre ++ [y]) ++ mid ++ (y :: post)).set (pre.length + mid.length + 1) x = (pre ++ [y]) ++ mid ++ ([x] ++ post) := by
    rw [List.set_append_right _ _ (by simp; omega)]
    rw [show pre.length + mid.length + 1 - (pre ++ [y] ++ mid).length = 0 by simp; omega]; rfl
  unfold lex_digits.t2
  dsimp only
  generalize hb : pre ++ (x :: (mid ++ [y])) ++ post = b at *
  have ha : (decide ((0 : Int) ≤ (pre.length : Int)) && decide ((pre.length : Int) < (b.length : Int))) = true := by simp; omega
  have hc : (decide ((0 : Int) ≤ ((pre.length + mid.length + 1 : Nat) : Int)) && decide (((pre.length + mid.length + 1 : Nat) : Int) < (b.length : Int))) = true := by
    rw [Bool.and_eq_true, decide_eq_true_eq, decide_eq_true_eq]; omega
  rw [tr_yes (by rw [decide_eq_true_eq]; omega), tr_yes hc, Int.toNat_natCast, Nat.zero_add, h2, tr_opt, Option.bind_some, tr_yes ha, Int.toNat_natCast, Nat.zero_add, h1, tr_opt, Option.bind_some, tr_yes ha, tr_opt, Option.bind_some, tr_yes hc, h3, h4, tr_opt, Option.bind_some, tr_ret, h5]
  rw [List.take_of_length_le (by rw [hl]; simp; omega)]

theorem swap_end (b : List Int) (i k : Int) (h : k ≤ i) : (lex_digits.t2 (b, i, k, ())).run = some (.exit 2, b, i, k, ()) := by
  unfold lex_digits.t2
  dsimp only
  rw [tr_no (by simp; omega), tr_ret, List.take_length]

theorem swap_all : ∀ (c : Nat) (mid pre post : List Int) (m : Nat), mid.length ≤ c → pre.length + mid.length ≤ 1000 → c < m →
    ∃ i k, (iterT lex_digits.t2 m (pre ++ mid ++ post, (pre.length : Int), (pre.length : Int) + mid.length - 1, ())).run = some (.exit 2, pre ++ mid.reverse ++ post, i, k, ())
  | c, mid, pre, post, 0, _, _, hm => absurd hm (Nat.not_lt_zero _)
  | c, [], pre, post, m + 1, _, _, _ => by
    refine ⟨(pre.length : Int), (pre.length : Int) + ([] : List Int).length - 1, ?_⟩
    rw [iter_step (swap_end _ _ _ (by simp; omega))]
    rfl
  | c, [x], pre, post, m + 1, _, _, _ => by
    refine ⟨(pre.length : Int), (pre.length : Int) + [x].length - 1, ?_⟩
    rw [iter_step (swap_end _ _ _ (by simp))]
    rfl
  | 0, x :: z :: l, pre, post, m + 1, h, _, _ => by simp at h
  | c + 1, x :: z :: l, pre, post, m + 1, h, hb, hm => by
    obtain ⟨mid, y, e⟩ : ∃ mid y, z :: l = mid ++ [y] := ⟨(z :: l).dropLast, (z :: l).getLast (by simp), (List.dropLast_concat_getLast (by simp)).symm⟩
    have hl : l.length + 1 = mid.length + 1 := by have := congrArg List.length e; simpa using this
    obtain ⟨i, k, ih⟩ := swap_all c mid (pre ++ [y]) ([x] ++ post) m (by simp at h; omega) (by simp at hb ⊢; omega) (by omega)
    refine ⟨i, k, ?_⟩
    rw [e]
    have hs := swap_step pre mid post x y
    rw [W_id (by omega) (by simp at hb; omega), W_id (by omega) (by simp at hb; omega)] at hs
    have e0 : ((pre.length : Int) + ((x :: (mid ++ [y])).length : Nat) - 1) = ((pre.length + mid.length + 1 : Nat) : Int) := by simp; omega
    rw [e0, iter_step hs]
    have e1 : (((pre ++ [y]).length : Nat) : Int) = (pre.length : Int) + 1 := by simp
    have e2 : (((pre ++ [y]).length : Nat) : Int) + (mid.length : Int) - 1 = ((pre.length + mid.length + 1 : Nat) : Int) - 1 := by simp; omega
    rw [e2, e1] at ih
    show (iterT lex_digits.t2 m _).run = _
    rw [ih]
    simp

theorem ofBytes_dg (l : List Nat) (h : ∀ d ∈ l, d < 10) : ofBytes (l.map fun d : Nat => (48 + (d : Int))) = B (l.map dg) := by
  unfold ofBytes B
  rw [List.map_map]
  congr 2

theorem digits_eq (f n L : Nat) (hf : f ≤ 20) (hn : n < 10 ^ f) (hL : L ≤ f) (hb : n < 2 ^ 62) : lex_digits ((n : Int), (L : Int)) = some (B ((rdig f n L).reverse.map dg)) := by
  unfold lex_digits lex_digits.t
  dsimp only
  have h0 := digits0 L f n [] rounds hn (by simpa using hL) (by simp; omega) hb (rounds_gt (by omega))
  rw [List.nil_append] at h0
  have ht : List.take (Int.toNat 0) (List.replicate (Int.toNat 16) (0 : Int)) = [] := rfl
  rw [tr_yes (by decide), ht, tr_opt]
  unfold lex_digits.l0
  rw [h0, Option.bind_some]
  dsimp only
  rw [tr_yes (by decide), tr_opt, List.take_length]
  unfold lex_digits.l2
  generalize hr : (rdig f n (L - ([] : List Int).length)).map (fun d : Nat => (48 + (d : Int))) = r
  have hrl : r.length ≤ 20 := by rw [← hr, List.length_map]; exact Nat.le_trans (rdig_len _ _ _) hf
  obtain ⟨i, k, h2⟩ := swap_all r.length r [] [] rounds (Nat.le_refl _) (by simp; omega) (rounds_gt (by omega))
  rw [List.nil_append, List.append_nil, List.nil_append, List.append_nil] at h2
  have e : W ((r.length : Int) - 1) = ((([] : List Int).length : Nat) : Int) + (r.length : Int) - 1 := by rw [W_id (by omega) (by omega)]; simp
  rw [e]
  have h2' : (iterT lex_digits.t2 rounds (r, (0 : Int), ((([] : List Int).length : Nat) : Int) + (r.length : Int) - 1, ())).run = some (.exit 2, r.reverse, i, k, ()) := h2
  rw [h2', Option.bind_some]
  dsimp only
  rw [tr_yes (by decide), tr_ret, List.take_length]
  congr 1
  rw [← hr, ← List.map_reverse]
  exact ofBytes_dg _ fun d hd => rdig_lt _ _ _ d (List.mem_reverse.1 hd)
end Go.Proofs.Pen

namespace Go.Proofs.Pen
open Go Go.Proofs
def txt0.L0 : List (Nat × Lay) := [(3, .val .str), (4, .val TI)]
noncomputable def txt0.t0 (x : ByteArray × Int × Unit) : T (Ex × ByteArray × Int × Unit) := T.ite (decide (x.2.1 > (0 : Int))) (T.opt (dig9 (W ((W (x.2.1 * (10 : Int))).tdiv (1024 : Int)))) fun y => T.ite (decide ((↑(ByteArray.size x.1 + y.size) : Int) > IntKind.i64.max)) T.fail (T.ret (Ex.normal, x.1 ++ y, (W (x.2.1 * (10 : Int))).tmod (1024 : Int), ()))) (T.ret (Ex.exit (0 : Nat), x.1, x.2.1, ()))
noncomputable def txt0.l0 (x : ByteArray × Int × Unit) : Option (Ex × ByteArray × Int × Unit) := (iterT txt0.t0 rounds x).run
theorem txt0.k0 : bodies 0 (lp Tryz.f28 []) = [.loop (loopIn 0 (lp Tryz.f28 []))] ∧ WP Tryz.prog 0 (.block 0 (.loop (loopIn 0 (lp Tryz.f28 [])))) (loopS txt0.L0 33 0 [.exit 0] txt0.l0) :=
  loop_tree (L := txt0.L0) (F := ({ quiet := (ext (ext (ext (ext (ext (ext (ext (ext (ext (ext Xs 29 dig0.q) 29 dig1.q) 29 dig2.q) 29 dig3.q) 29 dig4.q) 29 dig5.q) 29 dig6.q) 29 dig7.q) 29 dig8.q) 29 dig9.q), deep := noDeep } : Fns)) (D := D0) (tab := []) (t := txt0.t0) mixed (quiet_ext (quiet_ext (quiet_ext (quiet_ext (quiet_ext (quiet_ext (quiet_ext (quiet_ext (quiet_ext (quiet_ext Xok dig0.ok) dig1.ok) dig2.ok) dig3.ok) dig4.ok) dig5.ok) dig6.ok) dig7.ok) dig8.ok) dig9.ok) (deep_none _) (fun _ => rfl) (by kernel_rfl) (by kernel_rfl) trivial (fun x => by kernel_rfl)
noncomputable def txt0.t (x : Int) : T (ByteArray) := T.ite (decide (x < (0 : Int))) T.fail (T.opt (dig9 (W (Int.tdiv x (1024 : Int)))) fun y => T.ite (Int.tmod x (1024 : Int) == (0 : Int)) (T.ret y) (T.ite (decide ((↑(y.size + (ByteArray.mk #[46]).size) : Int) > IntKind.i64.max)) T.fail (T.opt (txt0.l0 (y ++ (ByteArray.mk #[46]), Int.tmod x (1024 : Int), ())) fun y => T.ite (exEq y.1 (Ex.exit (0 : Nat))) (T.ret y.2.1) T.fail)))
noncomputable def txt0 (x : Int) : Option (ByteArray) := (txt0.t x).run
noncomputable def txt0.q : List AV → T AV := entry [TI] (outR [.str]) fun x => .opt (txt0 x) .ret
theorem txt0.ok : FnOK Tryz.prog 28 txt0.q :=
  entry_call (ps := [TI]) (rs := [.str]) (F := ({ quiet := (ext (ext (ext (ext (ext (ext (ext (ext (ext (ext Xs 29 dig0.q) 29 dig1.q) 29 dig2.q) 29 dig3.q) 29 dig4.q) 29 dig5.q) 29 dig6.q) 29 dig7.q) 29 dig8.q) 29 dig9.q), deep := noDeep } : Fns)) (D := D0) (S := tabS [(0, loopS txt0.L0 33 0 [.exit 0] txt0.l0)]) (t := txt0.t) mixed (quiet_ext (quiet_ext (quiet_ext (quiet_ext (quiet_ext (quiet_ext (quiet_ext (quiet_ext (quiet_ext (quiet_ext Xok dig0.ok) dig1.ok) dig2.ok) dig3.ok) dig4.ok) dig5.ok) dig6.ok) dig7.ok) dig8.ok) dig9.ok) (deep_none _) Tryz.func28 (by kernel_rfl) (sok_fn ⟨txt0.k0, trivial⟩) (by kernel_rfl) (fun x => by kernel_rfl)
end Go.Proofs.Pen

namespace Go.Proofs.Pen
open Go Go.Proofs
def txt1.L0 : List (Nat × Lay) := [(3, .val .str), (4, .val TI)]
noncomputable def txt1.t0 (x : ByteArray × Int × Unit) : T (Ex × ByteArray × Int × Unit) := T.ite (decide (x.2.1 > (0 : Int))) (T.opt (dig9 (W ((W (x.2.1 * (10 : Int))).tdiv (1024 : Int)))) fun y => T.ite (decide ((↑(ByteArray.size x.1 + y.size) : Int) > IntKind.i64.max)) T.fail (T.ret (Ex.normal, x.1 ++ y, (W (x.2.1 * (10 : Int))).tmod (1024 : Int), ()))) (T.ret (Ex.exit (0 : Nat), x.1, x.2.1, ()))
noncomputable def txt1.l0 (x : ByteArray × Int × Unit) : Option (Ex × ByteArray × Int × Unit) := (iterT txt1.t0 rounds x).run
theorem txt1.k0 : bodies 0 (lp Tryz.f28 []) = [.loop (loopIn 0 (lp Tryz.f28 []))] ∧ WP Tryz.prog 0 (.block 0 (.loop (loopIn 0 (lp Tryz.f28 [])))) (loopS txt1.L0 33 0 [.exit 0] txt1.l0) :=
  loop_tree (L := txt1.L0) (F := ({ quiet := (ext (ext (ext (ext (ext (ext (ext (ext (ext (ext (ext Xs 28 txt0.q) 29 dig0.q) 29 dig1.q) 29 dig2.q) 29 dig3.q) 29 dig4.q) 29 dig5.q) 29 dig6.q) 29 dig7.q) 29 dig8.q) 29 dig9.q), deep := noDeep } : Fns)) (D := D0) (tab := []) (t := txt1.t0) mixed (quiet_ext (quiet_ext (quiet_ext (quiet_ext (quiet_ext (quiet_ext (quiet_ext (quiet_ext (quiet_ext (quiet_ext (quiet_ext Xok txt0.ok) dig0.ok) dig1.ok) dig2.ok) dig3.ok) dig4.ok) dig5.ok) dig6.ok) dig7.ok) dig8.ok) dig9.ok) (deep_none _) (fun _ => rfl) (by kernel_rfl) (by kernel_rfl) trivial (fun x => by kernel_rfl)
noncomputable def txt1.t (x : Int) : T (ByteArray) := T.ite (decide (x < (0 : Int))) (T.opt (txt0 (W ((0 : Int) - x))) fun y => T.ite (decide ((↑((ByteArray.mk #[45]).size + y.size) : Int) > IntKind.i64.max)) T.fail (T.ret ((ByteArray.mk #[45]) ++ y))) (T.opt (dig9 (W (Int.tdiv x (1024 : Int)))) fun y => T.ite (Int.tmod x (1024 : Int) == (0 : Int)) (T.ret y) (T.ite (decide ((↑(y.size + (ByteArray.mk #[46]).size) : Int) > IntKind.i64.max)) T.fail (T.opt (txt1.l0 (y ++ (ByteArray.mk #[46]), Int.tmod x (1024 : Int), ())) fun y => T.ite (exEq y.1 (Ex.exit (0 : Nat))) (T.ret y.2.1) T.fail)))
noncomputable def txt1 (x : Int) : Option (ByteArray) := (txt1.t x).run
noncomputable def txt1.q : List AV → T AV := entry [TI] (outR [.str]) fun x => .opt (txt1 x) .ret
theorem txt1.ok : FnOK Tryz.prog 28 txt1.q :=
  entry_call (ps := [TI]) (rs := [.str]) (F := ({ quiet := (ext (ext (ext (ext (ext (ext (ext (ext (ext (ext (ext Xs 28 txt0.q) 29 dig0.q) 29 dig1.q) 29 dig2.q) 29 dig3.q) 29 dig4.q) 29 dig5.q) 29 dig6.q) 29 dig7.q) 29 dig8.q) 29 dig9.q), deep := noDeep } : Fns)) (D := D0) (S := tabS [(0, loopS txt1.L0 33 0 [.exit 0] txt1.l0)]) (t := txt1.t) mixed (quiet_ext (quiet_ext (quiet_ext (quiet_ext (quiet_ext (quiet_ext (quiet_ext (quiet_ext (quiet_ext (quiet_ext (quiet_ext Xok txt0.ok) dig0.ok) dig1.ok) dig2.ok) dig3.ok) dig4.ok) dig5.ok) dig6.ok) dig7.ok) dig8.ok) dig9.ok) (deep_none _) Tryz.func28 (by kernel_rfl) (sok_fn ⟨txt1.k0, trivial⟩) (by kernel_rfl) (fun x => by kernel_rfl)
end Go.Proofs.Pen

namespace Go.Proofs.Pen
open Go Go.Proofs
noncomputable def lex_Text.t (x : Int) : T (ByteArray × Int) := T.ite (decide (x < (-1099511627776 : Int)) || decide (x > (1099511627776 : Int))) (T.ret ((ByteArray.mk #[]), (3 : Int))) (T.ite (decide (x < (0 : Int))) (T.opt (lex_digits (W ((W ((0 : Int) - x)).tdiv (1024 : Int)), (1 : Int))) fun y => T.ite (decide ((↑((ByteArray.mk #[45]).size + y.size) : Int) > IntKind.i64.max)) T.fail (T.ite ((W ((0 : Int) - x)).tmod (1024 : Int) == (0 : Int)) (T.ret ((ByteArray.mk #[45]) ++ y, (0 : Int))) (T.ite (decide ((↑(((ByteArray.mk #[45]) ++ y).size + (ByteArray.mk #[46]).size) : Int) > IntKind.i64.max)) T.fail (T.opt (lex_digits (W ((W ((0 : Int) - x)).tmod (1024 : Int) * (9765625 : Int)), (10 : Int))) fun y_1 => T.ite (decide ((ByteArray.mk #[48]).size = (1 : Nat)) && decide ((byteH (ByteArray.mk #[48])).toNat < (128 : Nat)) && decide (y_1.size ≤ (9223372036854775807 : Nat))) (T.ite (decide ((↑(((ByteArray.mk #[45]) ++ y ++ (ByteArray.mk #[46])).size + (trimR y_1 (byteH (ByteArray.mk #[48]))).size) : Int) > IntKind.i64.max)) T.fail (T.ret ((ByteArray.mk #[45]) ++ y ++ (ByteArray.mk #[46]) ++ trimR y_1 (byteH (ByteArray.mk #[48])), (0 : Int)))) T.fail)))) (T.opt (lex_digits (W (Int.tdiv x (1024 : Int)), (1 : Int))) fun y => T.ite (decide ((↑((ByteArray.mk #[]).size + y.size) : Int) > IntKind.i64.max)) T.fail (T.ite (Int.tmod x (1024 : Int) == (0 : Int)) (T.ret ((ByteArray.mk #[]) ++ y, (0 : Int))) (T.ite (decide ((↑(((ByteArray.mk #[]) ++ y).size + (ByteArray.mk #[46]).size) : Int) > IntKind.i64.max)) T.fail (T.opt (lex_digits (W (Int.tmod x (1024 : Int) * (9765625 : Int)), (10 : Int))) fun y_1 => T.ite (decide ((ByteArray.mk #[48]).size = (1 : Nat)) && decide ((byteH (ByteArray.mk #[48])).toNat < (128 : Nat)) && decide (y_1.size ≤ (9223372036854775807 : Nat))) (T.ite (decide ((↑(((ByteArray.mk #[]) ++ y ++ (ByteArray.mk #[46])).size + (trimR y_1 (byteH (ByteArray.mk #[48]))).size) : Int) > IntKind.i64.max)) T.fail (T.ret ((ByteArray.mk #[]) ++ y ++ (ByteArray.mk #[46]) ++ trimR y_1 (byteH (ByteArray.mk #[48])), (0 : Int)))) T.fail)))))
noncomputable def lex_Text (x : Int) : Option (ByteArray × Int) := (lex_Text.t x).run
noncomputable def lex_Text.q : List AV → T AV := entry [TI] (outR [.str, TI]) fun x => .opt (lex_Text x) .ret
theorem lex_Text.ok : FnOK Tryz.prog 39 lex_Text.q :=
  entry_call (ps := [TI]) (rs := [.str, TI]) (F := ({ quiet := (ext Xs 66 lex_digits.q), deep := noDeep } : Fns)) (D := D0) (S := tabS []) (t := lex_Text.t) mixed (quiet_ext Xok lex_digits.ok) (deep_none _) Tryz.func39 (by kernel_rfl) (sok_fn trivial) (by kernel_rfl) (fun x => by kernel_rfl)
end Go.Proofs.Pen

namespace Go.Proofs.Pen
open Go Go.Proofs

theorem small {n : Nat} (h : n ≤ 1000) : decide (((n : Nat) : Int) > IntKind.i64.max) = false := by
  have e : IntKind.i64.max = 9223372036854775807 := rfl
  rw [e]
  exact decide_eq_false (by omega)

def dgs (f n : Nat) : List UInt8 := (rdig f n 1).reverse.map dg
theorem dgs_len (f n : Nat) : (dgs f n).length ≤ f := by unfold dgs; rw [List.length_map, List.length_reverse]; exact rdig_len _ _ _
theorem dgs_small {f n : Nat} (h : n < 10) : dgs (f + 1) n = [dg n] := by
  unfold dgs
  simp only [rdig]
  rw [if_neg (by omega), Nat.div_eq_of_lt h, Nat.sub_self, rdig_nil, Nat.mod_eq_of_lt h]
  rfl
theorem dgs_more {f n : Nat} (h : 10 ≤ n) : dgs (f + 1) n = dgs f (n / 10) ++ [dg (n % 10)] := by
  unfold dgs
  simp only [rdig]
  rw [if_neg (by omega), Nat.sub_self, rdig_one (by omega)]
  simp

theorem one_digit {n : Nat} (h : n < 10) : (ByteArray.mk #[48, 49, 50, 51, 52, 53, 54, 55, 56, 57]).extract n (n + 1) = B [dg n] := by
  match n, h with
  | 0, _ => rfl
  | 1, _ => rfl
  | 2, _ => rfl
  | 3, _ => rfl
  | 4, _ => rfl
  | 5, _ => rfl
  | 6, _ => rfl
  | 7, _ => rfl
  | 8, _ => rfl
  | 9, _ => rfl

theorem dig_small {x : Int} {n : Nat} (hx : x = n) (h : n < 10) (r : T ByteArray) : (T.ite (decide (x < (10 : Int))) (T.ite (decide ((0 : Int) ≤ x) && decide (x ≤ W (x + (1 : Int))) && decide (W (x + (1 : Int)) ≤ (↑(ByteArray.mk #[48, 49, 50, 51, 52, 53, 54, 55, 56, 57]).size : Int))) (T.ret ((ByteArray.mk #[48, 49, 50, 51, 52, 53, 54, 55, 56, 57]).extract (Int.toNat x) (W (x + (1 : Int))).toNat)) T.fail) r).run = some (B [dg n]) := by
  subst hx
  have hs : ((ByteArray.mk #[48, 49, 50, 51, 52, 53, 54, 55, 56, 57]).size : Int) = 10 := rfl
  rw [tr_yes (by rw [decide_eq_true_eq]; omega), W_id (by omega) (by omega), hs, tr_yes (by simp; omega), tr_ret, Int.toNat_natCast, show ((n : Int) + 1).toNat = n + 1 by omega, one_digit h]

theorem dig_step {t : Int → T ByteArray} {prev : Int → Option ByteArray} {k : Nat} (hk : k ≤ 15)
    (e : ∀ x, t x = T.ite (decide (x < (10 : Int))) (T.ite (decide ((0 : Int) ≤ x) && decide (x ≤ W (x + (1 : Int))) && decide (W (x + (1 : Int)) ≤ (↑(ByteArray.mk #[48, 49, 50, 51, 52, 53, 54, 55, 56, 57]).size : Int))) (T.ret ((ByteArray.mk #[48, 49, 50, 51, 52, 53, 54, 55, 56, 57]).extract (Int.toNat x) (W (x + (1 : Int))).toNat)) T.fail) (T.opt (prev (W (Int.tdiv x (10 : Int)))) fun y => T.opt (prev (Int.tmod x (10 : Int))) fun y_1 => T.ite (decide ((↑(y.size + y_1.size) : Int) > IntKind.i64.max)) T.fail (T.ret (y ++ y_1))))
    (hp : ∀ n : Nat, n < 10 ^ (k + 1) → prev n = some (B (dgs (k + 1) n))) (n : Nat) (hn : n < 10 ^ (k + 2)) (hb : n < 2 ^ 62) : (t n).run = some (B (dgs (k + 2) n)) := by
  rw [e n]
  by_cases h : n < 10
  · rw [dig_small rfl h, dgs_small h]
  · rw [tr_no (by simp; omega)]
    have e1 : W ((n : Int).tdiv 10) = ((n / 10 : Nat) : Int) := by
      rw [show (n : Int).tdiv 10 = ((n / 10 : Nat) : Int) by rw [Int.tdiv_eq_ediv_of_nonneg (by omega)]; omega]
      exact W_id (by omega) (by omega)
    have e2 : (n : Int).tmod 10 = ((n % 10 : Nat) : Int) := by
      rw [Int.tmod_eq_emod_of_nonneg (by omega)]; omega
    have h1 : n / 10 < 10 ^ (k + 1) := by
      rw [Nat.div_lt_iff_lt_mul (by omega), ← Nat.pow_succ]; exact hn
    have h10 : 10 ≤ 10 ^ (k + 1) := by
      rw [Nat.pow_succ]; have := Nat.pow_pos (n := k) (show 0 < 10 by omega); omega
    have l1 := dgs_len (k + 1) (n / 10)
    rw [e1, e2, hp _ h1, hp (n % 10) (by omega), tr_opt, Option.bind_some, tr_opt, Option.bind_some, B_size, B_size, dgs_small (n := n % 10) (by omega), tr_no (small (n := (dgs (k + 1) (n / 10)).length + [dg (n % 10)].length) (by rw [List.length_singleton]; omega)), tr_ret, B_app, dgs_more (n := n) (by omega)]

theorem dig0_eq (n : Nat) (hn : n < 10 ^ 1) : dig0 n = some (B (dgs 1 n)) := by
  unfold dig0 dig0.t
  rw [dig_small rfl (by omega), dgs_small (by omega)]
theorem dig1_eq (n : Nat) (hn : n < 10 ^ 2) : dig1 n = some (B (dgs 2 n)) := dig_step (k := 0) (by omega) (fun _ => rfl) dig0_eq n hn (by omega)
theorem dig2_eq (n : Nat) (hn : n < 10 ^ 3) : dig2 n = some (B (dgs 3 n)) := dig_step (k := 1) (by omega) (fun _ => rfl) dig1_eq n hn (by omega)
theorem dig3_eq (n : Nat) (hn : n < 10 ^ 4) : dig3 n = some (B (dgs 4 n)) := dig_step (k := 2) (by omega) (fun _ => rfl) dig2_eq n hn (by omega)
theorem dig4_eq (n : Nat) (hn : n < 10 ^ 5) : dig4 n = some (B (dgs 5 n)) := dig_step (k := 3) (by omega) (fun _ => rfl) dig3_eq n hn (by omega)
theorem dig5_eq (n : Nat) (hn : n < 10 ^ 6) : dig5 n = some (B (dgs 6 n)) := dig_step (k := 4) (by omega) (fun _ => rfl) dig4_eq n hn (by omega)
theorem dig6_eq (n : Nat) (hn : n < 10 ^ 7) : dig6 n = some (B (dgs 7 n)) := dig_step (k := 5) (by omega) (fun _ => rfl) dig5_eq n hn (by omega)
theorem dig7_eq (n : Nat) (hn : n < 10 ^ 8) : dig7 n = some (B (dgs 8 n)) := dig_step (k := 6) (by omega) (fun _ => rfl) dig6_eq n hn (by omega)
theorem dig8_eq (n : Nat) (hn : n < 10 ^ 9) : dig8 n = some (B (dgs 9 n)) := dig_step (k := 7) (by omega) (fun _ => rfl) dig7_eq n hn (by omega)
theorem dig9_eq (n : Nat) (hn : n < 10 ^ 10) : dig9 n = some (B (dgs 10 n)) := dig_step (k := 8) (by omega) (fun _ => rfl) dig8_eq n hn (by omega)

def fr : Nat → Nat → List Nat
  | 0, _ => []
  | c + 1, f => if f = 0 then [] else f * 10 / 1024 :: fr c (f * 10 % 1024)
theorem fr_lt : ∀ (c f : Nat), f < 1024 → ∀ d ∈ fr c f, d < 10
  | 0, _, _ => by simp [fr]
  | c + 1, f, h => by
    simp only [fr]
    split
    · simp
    · intro d hd
      rcases List.mem_cons.1 hd with rfl | hd
      · omega
      · exact fr_lt c _ (by omega) d hd
theorem fr_len : ∀ (c f : Nat), (fr c f).length ≤ c
  | 0, _ => by simp [fr]
  | c + 1, f => by
    simp only [fr]
    split
    · simp
    · have := fr_len c (f * 10 % 1024); simp only [List.length_cons]; omega

theorem frac_loop {t : ByteArray × Int × Unit → T (Ex × ByteArray × Int × Unit)}
    (e : ∀ x, t x = T.ite (decide (x.2.1 > (0 : Int))) (T.opt (dig9 (W ((W (x.2.1 * (10 : Int))).tdiv (1024 : Int)))) fun y => T.ite (decide ((↑(ByteArray.size x.1 + y.size) : Int) > IntKind.i64.max)) T.fail (T.ret (Ex.normal, x.1 ++ y, (W (x.2.1 * (10 : Int))).tmod (1024 : Int), ()))) (T.ret (Ex.exit (0 : Nat), x.1, x.2.1, ()))) :
    ∀ (c f : Nat) (s : List UInt8) (m : Nat), f < 1024 → f * 10 ^ c % 1024 = 0 → s.length + c ≤ 100 → c < m →
      (iterT t m (B s, (f : Int), ())).run = some (.exit 0, B (s ++ (fr c f).map dg), 0, ())
  | c, f, s, 0, _, _, _, hm => absurd hm (Nat.not_lt_zero _)
  | 0, f, s, m + 1, hf, h0, hl, hm => by
    have : f = 0 := by rw [Nat.pow_zero, Nat.mul_one] at h0; omega
    subst this
    have e1 : (t (B s, ((0 : Nat) : Int), ())).run = some (.exit 0, B s, 0, ()) := by
      rw [e, tr_no (by simp), tr_ret]; rfl
    rw [iter_step e1]
    simp [fr]
  | c + 1, f, s, m + 1, hf, h0, hl, hm => by
    by_cases hz : f = 0
    · subst hz
      have e1 : (t (B s, ((0 : Nat) : Int), ())).run = some (.exit 0, B s, 0, ()) := by
        rw [e, tr_no (by simp), tr_ret]; rfl
      rw [iter_step e1]
      simp [fr]
    · have e1 : (t (B s, (f : Int), ())).run = some (.normal, B (s ++ [dg (f * 10 / 1024)]), ((f * 10 % 1024 : Nat) : Int), ()) := by
        rw [e]
        dsimp only
        rw [tr_yes (by simp; omega)]
        have a1 : W ((f : Int) * 10) = ((f * 10 : Nat) : Int) := by rw [W_id (by omega) (by omega)]; omega
        have a2 : W (((f * 10 : Nat) : Int).tdiv 1024) = ((f * 10 / 1024 : Nat) : Int) := by
          rw [show ((f * 10 : Nat) : Int).tdiv 1024 = ((f * 10 / 1024 : Nat) : Int) by rw [Int.tdiv_eq_ediv_of_nonneg (by omega)]; omega]
          exact W_id (by omega) (by omega)
        have a3 : ((f * 10 : Nat) : Int).tmod 1024 = ((f * 10 % 1024 : Nat) : Int) := by
          rw [Int.tmod_eq_emod_of_nonneg (by omega)]; omega
        rw [a1, a2, a3, dig9_eq (f * 10 / 1024) (by omega), tr_opt, Option.bind_some, dgs_small (n := f * 10 / 1024) (by omega), B_size, B_size, tr_no (small (n := s.length + [dg (f * 10 / 1024)].length) (by rw [List.length_singleton]; omega)), tr_ret, B_app]
      rw [iter_step e1]
      have h1 : f * 10 % 1024 * 10 ^ c % 1024 = 0 := by
        rw [Nat.mod_mul_mod, Nat.mul_assoc, ← Nat.pow_succ']; exact h0
      have ih := frac_loop e c (f * 10 % 1024) (s ++ [dg (f * 10 / 1024)]) m (by omega) h1 (by simp; omega) (by omega)
      show (iterT t m _).run = _
      rw [ih]
      simp only [fr, if_neg hz, List.map_cons, List.append_assoc, List.cons_append, List.nil_append]
end Go.Proofs.Pen

namespace Go.Proofs.Pen
open Go Go.Proofs

theorem frac_trim : ((List.range 1024).all fun f => (rdig 10 (f * 9765625) 10).dropWhile (· == 0) == (fr 10 f).reverse) = true := by kernel_rfl

theorem drop_dg : ∀ (l : List Nat), (∀ d ∈ l, d < 10) → (l.map dg).dropWhile (· == 48) = (l.dropWhile (· == 0)).map dg
  | [], _ => rfl
  | a :: l, h => by
    have ha := h a (by simp)
    have e : (dg a == 48) = (a == 0) := by
      match a, ha with
      | 0, _ => rfl | 1, _ => rfl | 2, _ => rfl | 3, _ => rfl | 4, _ => rfl | 5, _ => rfl | 6, _ => rfl | 7, _ => rfl | 8, _ => rfl | 9, _ => rfl
    rw [List.map_cons, List.dropWhile_cons, List.dropWhile_cons, e]
    split
    · exact drop_dg l fun d hd => h d (by simp [hd])
    · rfl

theorem trimR_B (l : List UInt8) (b : UInt8) : trimR (B l) b = B ((l.reverse.dropWhile (· == b)).reverse) := by
  unfold trimR Lib.trimRightB
  rw [B_data]; rfl

def fx (f : Nat) : List UInt8 := (fr 10 f).map dg
theorem fx_len (f : Nat) : (fx f).length ≤ 10 := by unfold fx; rw [List.length_map]; exact fr_len _ _
theorem trim_frac {f : Nat} (h : f < 1024) : trimR (B ((rdig 10 (f * 9765625) 10).reverse.map dg)) 48 = B (fx f) := by
  rw [trimR_B, ← List.map_reverse, List.reverse_reverse, drop_dg _ (rdig_lt _ _ _)]
  have h1 := List.all_eq_true.1 frac_trim f (List.mem_range.2 h)
  rw [eq_of_beq h1, ← List.map_reverse, List.reverse_reverse]
  rfl

def Nx (n : Nat) : List UInt8 := dgs 10 (n / 1024) ++ if n % 1024 = 0 then [] else 46 :: fx (n % 1024)
def Tx (k : Int) : List UInt8 := (if k < 0 then [45] else []) ++ Nx k.natAbs
theorem Nx_len (n : Nat) : (Nx n).length ≤ 21 := by
  unfold Nx
  have h1 := dgs_len 10 (n / 1024)
  have h2 := fx_len (n % 1024)
  rw [List.length_append]
  split <;> simp <;> omega

theorem pow_frac {f : Nat} : f * 10 ^ 10 % 1024 = 0 := by
  have : f * 10 ^ 10 = (f * 9765625) * 1024 := by omega
  rw [this]; exact Nat.mul_mod_left _ _

theorem div_nat {n : Nat} (h : n < 2 ^ 62) : W ((n : Int).tdiv 1024) = ((n / 1024 : Nat) : Int) := by
  rw [show (n : Int).tdiv 1024 = ((n / 1024 : Nat) : Int) by rw [Int.tdiv_eq_ediv_of_nonneg (by omega)]; omega]
  exact W_id (by omega) (by omega)
theorem mod_nat (n : Nat) : (n : Int).tmod 1024 = ((n % 1024 : Nat) : Int) := by
  rw [Int.tmod_eq_emod_of_nonneg (by omega)]; omega

theorem txt0_eq {n : Nat} (h : n ≤ 1099511627776) : txt0 n = some (B (Nx n)) := by
  unfold txt0 txt0.t
  rw [tr_no (by simp), div_nat (by omega), mod_nat, dig9_eq (n / 1024) (by omega), tr_opt, Option.bind_some, Nx]
  by_cases hz : n % 1024 = 0
  · rw [tr_yes (by rw [hz]; rfl), tr_ret, if_pos hz, List.append_nil]
  · have hl := dgs_len 10 (n / 1024)
    rw [tr_no (by simp; omega), if_neg hz, B_size]
    have hm : ByteArray.mk #[46] = B [46] := rfl
    rw [hm, B_size, tr_no (small (n := (dgs 10 (n / 1024)).length + [(46 : UInt8)].length) (by rw [List.length_singleton]; omega)), B_app, tr_opt]
    unfold txt0.l0
    rw [frac_loop (t := txt0.t0) (fun _ => rfl) 10 (n % 1024) (dgs 10 (n / 1024) ++ [46]) rounds (by omega) pow_frac (by rw [List.length_append, List.length_singleton]; omega) (rounds_gt (by omega)), Option.bind_some]
    dsimp only
    rw [tr_yes (by decide), tr_ret, List.append_assoc]
    rfl

theorem txt1_eq {k : Int} (h0 : -1099511627776 ≤ k) (h1 : k ≤ 1099511627776) : txt1 k = some (B (Tx k)) := by
  unfold txt1 txt1.t Tx
  by_cases hk : k < 0
  · obtain ⟨n, rfl⟩ : ∃ n : Nat, k = -(n : Int) := ⟨k.natAbs, by omega⟩
    have hW : W (0 - -(n : Int)) = (n : Int) := by rw [W_id (by omega) (by omega)]; omega
    have hl := Nx_len n
    have hm : ByteArray.mk #[45] = B [45] := rfl
    rw [tr_yes (by rw [decide_eq_true_eq]; exact hk), hW, txt0_eq (by omega), tr_opt, Option.bind_some, hm, B_size, B_size, tr_no (small (n := [(45 : UInt8)].length + (Nx n).length) (by rw [List.length_singleton]; omega)), tr_ret, B_app, if_pos hk]
    rw [show (-(n : Int)).natAbs = n by omega]
  · obtain ⟨n, rfl⟩ : ∃ n : Nat, k = (n : Int) := ⟨k.natAbs, by omega⟩
    rw [if_neg hk, List.nil_append, show ((n : Int)).natAbs = n by omega]
    rw [tr_no (by simp), div_nat (by omega), mod_nat, dig9_eq (n / 1024) (by omega), tr_opt, Option.bind_some, Nx]
    by_cases hz : n % 1024 = 0
    · rw [tr_yes (by rw [hz]; rfl), tr_ret, if_pos hz, List.append_nil]
    · have hl := dgs_len 10 (n / 1024)
      rw [tr_no (by simp; omega), if_neg hz, B_size]
      have hm : ByteArray.mk #[46] = B [46] := rfl
      rw [hm, B_size, tr_no (small (n := (dgs 10 (n / 1024)).length + [(46 : UInt8)].length) (by rw [List.length_singleton]; omega)), B_app, tr_opt]
      unfold txt1.l0
      rw [frac_loop (t := txt1.t0) (fun _ => rfl) 10 (n % 1024) (dgs 10 (n / 1024) ++ [46]) rounds (by omega) pow_frac (by rw [List.length_append, List.length_singleton]; omega) (rounds_gt (by omega)), Option.bind_some]
      dsimp only
      rw [tr_yes (by decide), tr_ret, List.append_assoc]
      rfl

noncomputable def textTail (p : ByteArray) (x : Int) : T (ByteArray × Int) :=
  T.opt (lex_digits (W (Int.tdiv x (1024 : Int)), (1 : Int))) fun y => T.ite (decide ((↑(p.size + y.size) : Int) > IntKind.i64.max)) T.fail (T.ite (Int.tmod x (1024 : Int) == (0 : Int)) (T.ret (p ++ y, (0 : Int))) (T.ite (decide ((↑((p ++ y).size + (ByteArray.mk #[46]).size) : Int) > IntKind.i64.max)) T.fail (T.opt (lex_digits (W (Int.tmod x (1024 : Int) * (9765625 : Int)), (10 : Int))) fun y_1 => T.ite (decide (UInt8.toNat (48 : UInt8) < (128 : Nat)) && decide (y_1.size ≤ (9223372036854775807 : Nat))) (T.ite (decide ((↑((p ++ y ++ (ByteArray.mk #[46])).size + (trimR y_1 (48 : UInt8)).size) : Int) > IntKind.i64.max)) T.fail (T.ret (p ++ y ++ (ByteArray.mk #[46]) ++ trimR y_1 (48 : UInt8), (0 : Int)))) T.fail)))

theorem tail_eq (p : List UInt8) (hp : p.length ≤ 1) {n : Nat} (h : n ≤ 1099511627776) : (textTail (B p) n).run = some (B (p ++ Nx n), 0) := by
  unfold textTail
  have hl := dgs_len 10 (n / 1024)
  have hd : lex_digits (((n / 1024 : Nat) : Int), 1) = some (B (dgs 10 (n / 1024))) := digits_eq 10 (n / 1024) 1 (by omega) (by omega) (by omega) (by omega)
  rw [div_nat (by omega), mod_nat, hd, tr_opt, Option.bind_some, B_size, B_size, tr_no (small (n := p.length + (dgs 10 (n / 1024)).length) (by omega)), Nx, B_app]
  by_cases hz : n % 1024 = 0
  · rw [tr_yes (by rw [hz]; rfl), tr_ret, if_pos hz, List.append_nil]
  · have hm : ByteArray.mk #[46] = B [46] := rfl
    have hW : W (((n % 1024 : Nat) : Int) * 9765625) = ((n % 1024 * 9765625 : Nat) : Int) := by rw [W_id (by omega) (by omega)]; omega
    have hd2 : lex_digits (((n % 1024 * 9765625 : Nat) : Int), 10) = some (B ((rdig 10 (n % 1024 * 9765625) 10).reverse.map dg)) := digits_eq 10 (n % 1024 * 9765625) 10 (by omega) (by omega) (by omega) (by omega)
    have hs : (decide (UInt8.toNat (48 : UInt8) < (128 : Nat)) && decide ((B ((rdig 10 (n % 1024 * 9765625) 10).reverse.map dg)).size ≤ (9223372036854775807 : Nat))) = true := by
      have := rdig_len 10 (n % 1024 * 9765625) 10
      rw [B_size, List.length_map, List.length_reverse, Bool.and_eq_true, decide_eq_true_eq, decide_eq_true_eq]
      exact ⟨by decide, by omega⟩
    have hf := fx_len (n % 1024)
    rw [tr_no (by simp; omega), if_neg hz, hm, B_size, B_size, tr_no (small (n := (p ++ dgs 10 (n / 1024)).length + [(46 : UInt8)].length) (by rw [List.length_singleton, List.length_append]; omega)), hW, hd2, tr_opt, Option.bind_some, tr_yes hs, trim_frac (f := n % 1024) (by omega), B_app, B_size, B_size,
      tr_no (small (n := (p ++ dgs 10 (n / 1024) ++ [(46 : UInt8)]).length + (fx (n % 1024)).length) (by rw [List.length_append, List.length_singleton, List.length_append]; omega)), tr_ret, B_app]
    simp

theorem Text_eq {k : Int} (h0 : -1099511627776 ≤ k) (h1 : k ≤ 1099511627776) : lex_Text k = some (B (Tx k), 0) := by
  unfold lex_Text lex_Text.t Tx
  rw [tr_no (by simp; omega)]
  by_cases hk : k < 0
  · obtain ⟨n, rfl⟩ : ∃ n : Nat, k = -(n : Int) := ⟨k.natAbs, by omega⟩
    have hW : W (0 - -(n : Int)) = (n : Int) := by rw [W_id (by omega) (by omega)]; omega
    rw [tr_yes (by rw [decide_eq_true_eq]; exact hk), hW, if_pos hk, show (-(n : Int)).natAbs = n by omega]
    exact tail_eq [45] (by simp) (by omega)
  · obtain ⟨n, rfl⟩ : ∃ n : Nat, k = (n : Int) := ⟨k.natAbs, by omega⟩
    rw [tr_no (by simp), if_neg hk, show ((n : Int)).natAbs = n by omega]
    exact tail_eq [] (by simp) (by omega)

theorem Text_out {k : Int} (h : k < -1099511627776 ∨ 1099511627776 < k) : lex_Text k = some (B [], 3) := by
  unfold lex_Text lex_Text.t
  rw [tr_yes (by simp; omega), tr_ret]
  rfl
end Go.Proofs.Pen

namespace Go.Proofs.Pen
open Go Go.Proofs
noncomputable def internal_stringslite_Cut.t (x : ByteArray × ByteArray) : T (ByteArray × ByteArray × Bool) := T.ite (decide (ByteArray.size x.2 = (1 : Nat))) (T.ite (decide (indexB x.1 (byteH x.2) ≥ (0 : Int))) (T.ite (decide ((0 : Int) ≤ (0 : Int)) && decide ((0 : Int) ≤ indexB x.1 (byteH x.2)) && decide (indexB x.1 (byteH x.2) ≤ (↑(ByteArray.size x.1) : Int))) (T.ite (decide ((0 : Int) ≤ W (indexB x.1 (byteH x.2) + (↑(ByteArray.size x.2) : Int))) && decide (W (indexB x.1 (byteH x.2) + (↑(ByteArray.size x.2) : Int)) ≤ (↑(ByteArray.size x.1) : Int)) && decide ((↑(ByteArray.size x.1) : Int) ≤ (↑(ByteArray.size x.1) : Int))) (T.ret (ByteArray.extract x.1 (Int.toNat (0 : Int)) (indexB x.1 (byteH x.2)).toNat, ByteArray.extract x.1 (W (indexB x.1 (byteH x.2) + (↑(ByteArray.size x.2) : Int))).toNat (↑(ByteArray.size x.1) : Int).toNat, true)) T.fail) T.fail) (T.ret (x.1, (ByteArray.mk #[]), false))) T.fail
noncomputable def internal_stringslite_Cut (x : ByteArray × ByteArray) : Option (ByteArray × ByteArray × Bool) := (internal_stringslite_Cut.t x).run
noncomputable def internal_stringslite_Cut.q : List AV → T AV := entry [.str, .str] (outR [.str, .str, .bool]) fun x => .opt (internal_stringslite_Cut x) .ret
theorem internal_stringslite_Cut.ok : FnOK Tryz.prog 96 internal_stringslite_Cut.q :=
  entry_call (ps := [.str, .str]) (rs := [.str, .str, .bool]) (F := ({ quiet := Xs, deep := noDeep } : Fns)) (D := D0) (S := tabS []) (t := internal_stringslite_Cut.t) mixed Xok (deep_none _) Tryz.func96 (by kernel_rfl) (sok_fn trivial) (by kernel_rfl) (fun x => by kernel_rfl)
end Go.Proofs.Pen

namespace Go.Proofs.Pen
open Go Go.Proofs
noncomputable def strings_Cut.t (x : ByteArray × ByteArray) : T (ByteArray × ByteArray × Bool) := T.opt (internal_stringslite_Cut x) fun y => T.ret y
noncomputable def strings_Cut (x : ByteArray × ByteArray) : Option (ByteArray × ByteArray × Bool) := (strings_Cut.t x).run
noncomputable def strings_Cut.q : List AV → T AV := entry [.str, .str] (outR [.str, .str, .bool]) fun x => .opt (strings_Cut x) .ret
theorem strings_Cut.ok : FnOK Tryz.prog 72 strings_Cut.q :=
  entry_call (ps := [.str, .str]) (rs := [.str, .str, .bool]) (F := ({ quiet := (ext Xs 96 internal_stringslite_Cut.q), deep := noDeep } : Fns)) (D := D0) (S := tabS []) (t := strings_Cut.t) mixed (quiet_ext Xok internal_stringslite_Cut.ok) (deep_none _) Tryz.func72 (by kernel_rfl) (sok_fn trivial) (by kernel_rfl) (fun x => by kernel_rfl)
end Go.Proofs.Pen

namespace Go.Proofs.Pen
open Go Go.Proofs
def lex_plain.L0 : List (Nat × Lay) := [(0, .val .str), (2, .val TI), (3, .val .bool), (4, .val TI), (7, .val TI), (8, .val TI)]
noncomputable def lex_plain.t0 (x : ByteArray × Int × Bool × Int × Int × Int × Unit) : T (Ex × ByteArray × Int × Bool × Int × Int × Int × Unit) := T.ite (decide (x.2.2.2.2.2.1 < x.2.2.2.2.1)) (T.opt (sget x.1 x.2.2.2.2.2.1) fun y => T.ite (decide (y < (48 : Int))) (T.ret (Ex.ret, x.1, (0 : Int), false, x.2.2.2.1, x.2.2.2.2.1, x.2.2.2.2.2.1, ())) (T.opt (sget x.1 x.2.2.2.2.2.1) fun y => T.ite (decide (y > (57 : Int))) (T.ret (Ex.ret, x.1, (0 : Int), false, x.2.2.2.1, x.2.2.2.2.1, x.2.2.2.2.2.1, ())) (T.opt (sget x.1 x.2.2.2.2.2.1) fun y => T.ret (Ex.normal, x.1, x.2.1, x.2.2.1, W (W ((10 : Int) * x.2.2.2.1) + W (IntKind.u8.wrap (y - (48 : Int)))), x.2.2.2.2.1, W (x.2.2.2.2.2.1 + (1 : Int)), ())))) (T.ret (Ex.exit (0 : Nat), x.1, x.2.1, x.2.2.1, x.2.2.2.1, x.2.2.2.2.1, x.2.2.2.2.2.1, ()))
noncomputable def lex_plain.l0 (x : ByteArray × Int × Bool × Int × Int × Int × Unit) : Option (Ex × ByteArray × Int × Bool × Int × Int × Int × Unit) := (iterT lex_plain.t0 rounds x).run
theorem lex_plain.k0 : bodies 0 (lp Tryz.f99 []) = [.loop (loopIn 0 (lp Tryz.f99 []))] ∧ WP Tryz.prog 0 (.block 0 (.loop (loopIn 0 (lp Tryz.f99 [])))) (loopS lex_plain.L0 38 0 [.exit 0, .ret] lex_plain.l0) :=
  loop_tree (L := lex_plain.L0) (F := ({ quiet := Xs, deep := noDeep } : Fns)) (D := D0) (tab := []) (t := lex_plain.t0) mixed Xok (deep_none _) (fun _ => rfl) (by kernel_rfl) (by kernel_rfl) trivial (fun x => by kernel_rfl)
noncomputable def lex_plain.t (x : ByteArray) : T (Int × Bool) := T.opt (lex_plain.l0 (x, (0 : Int), false, (0 : Int), (↑(ByteArray.size x) : Int), (0 : Int), ())) fun y => T.ite (exEq y.1 (Ex.exit (0 : Nat))) (T.ret (y.2.2.2.2.1, !ByteArray.toList y.2.1 == (ByteArray.mk #[]).toList && decide ((↑(ByteArray.size y.2.1) : Int) ≤ (10 : Int)))) (T.ite (exEq y.1 Ex.ret) (T.ret (y.2.2.1, y.2.2.2.1)) T.fail)
noncomputable def lex_plain (x : ByteArray) : Option (Int × Bool) := (lex_plain.t x).run
noncomputable def lex_plain.q : List AV → T AV := entry [.str] (outR [TI, .bool]) fun x => .opt (lex_plain x) .ret
theorem lex_plain.ok : FnOK Tryz.prog 99 lex_plain.q :=
  entry_call (ps := [.str]) (rs := [TI, .bool]) (F := ({ quiet := Xs, deep := noDeep } : Fns)) (D := D0) (S := tabS [(0, loopS lex_plain.L0 38 0 [.exit 0, .ret] lex_plain.l0)]) (t := lex_plain.t) mixed Xok (deep_none _) Tryz.func99 (by kernel_rfl) (sok_fn ⟨lex_plain.k0, trivial⟩) (by kernel_rfl) (fun x => by kernel_rfl)
end Go.Proofs.Pen

namespace Go.Proofs.Pen
open Go Go.Proofs
noncomputable def lex_Number.t (x : ByteArray) : T (Int × Bool) := T.ite (decide ((↑(ByteArray.size x) : Int) > (40 : Int))) (T.ret ((0 : Int), false)) (T.opt (strings_Cut (cutP x (ByteArray.mk #[45]), (ByteArray.mk #[46]))) fun y => T.ite (decide ((0 : Int) ≤ if (0 : Int) > W ((10 : Int) - (↑(ByteArray.size y.2.1) : Int)) then (0 : Int) else W ((10 : Int) - (↑(ByteArray.size y.2.1) : Int))) && decide (((↑(ByteArray.mk #[48]).size : Int) * if (0 : Int) > W ((10 : Int) - (↑(ByteArray.size y.2.1) : Int)) then (0 : Int) else W ((10 : Int) - (↑(ByteArray.size y.2.1) : Int))) ≤ (140737488355328 : Int)) && decide ((if (0 : Int) > W ((10 : Int) - (↑(ByteArray.size y.2.1) : Int)) then (0 : Int) else W ((10 : Int) - (↑(ByteArray.size y.2.1) : Int))) ≤ (9223372036854775807 : Int))) (T.ite (decide ((↑(ByteArray.size y.2.1 + (repB (ByteArray.mk #[48]) (if (0 : Int) > W ((10 : Int) - (↑(ByteArray.size y.2.1) : Int)) then (0 : Int) else W ((10 : Int) - (↑(ByteArray.size y.2.1) : Int)))).size) : Int) > IntKind.i64.max)) T.fail (T.opt (lex_plain y.1) fun y_1 => T.opt (lex_plain (y.2.1 ++ repB (ByteArray.mk #[48]) (if (0 : Int) > W ((10 : Int) - (↑(ByteArray.size y.2.1) : Int)) then (0 : Int) else W ((10 : Int) - (↑(ByteArray.size y.2.1) : Int))))) fun y => T.ite (!y_1.snd || !y.2) (T.ret ((0 : Int), false)) (T.ite (Int.tmod y.1 (9765625 : Int) != (0 : Int) || decide (y_1.fst > (1073741824 : Int))) (T.ret ((0 : Int), false)) (T.ite (hasP x (ByteArray.mk #[45])) (T.opt (lex_Text (W ((0 : Int) - W (W (y_1.fst * (1024 : Int)) + W (Int.tdiv y.1 (9765625 : Int)))))) fun y_2 => T.ite (y_2.snd != (0 : Int) || !ByteArray.toList y_2.fst == ByteArray.toList x) (T.ret ((0 : Int), false)) (T.ret (W ((0 : Int) - W (W (y_1.fst * (1024 : Int)) + W (Int.tdiv y.1 (9765625 : Int)))), true))) (T.opt (lex_Text (W (W (y_1.fst * (1024 : Int)) + W (Int.tdiv y.1 (9765625 : Int))))) fun y_2 => T.ite (y_2.snd != (0 : Int) || !ByteArray.toList y_2.fst == ByteArray.toList x) (T.ret ((0 : Int), false)) (T.ret (W (W (y_1.fst * (1024 : Int)) + W (Int.tdiv y.1 (9765625 : Int))), true))))))) T.fail)
noncomputable def lex_Number (x : ByteArray) : Option (Int × Bool) := (lex_Number.t x).run
noncomputable def lex_Number.q : List AV → T AV := entry [.str] (outR [TI, .bool]) fun x => .opt (lex_Number x) .ret
theorem lex_Number.ok : FnOK Tryz.prog 75 lex_Number.q :=
  entry_call (ps := [.str]) (rs := [TI, .bool]) (F := ({ quiet := (ext (ext (ext Xs 72 strings_Cut.q) 99 lex_plain.q) 39 lex_Text.q), deep := noDeep } : Fns)) (D := D0) (S := tabS []) (t := lex_Number.t) mixed (quiet_ext (quiet_ext (quiet_ext Xok strings_Cut.ok) lex_plain.ok) lex_Text.ok) (deep_none _) Tryz.func75 (by kernel_rfl) (sok_fn trivial) (by kernel_rfl) (fun x => by kernel_rfl)
end Go.Proofs.Pen

namespace Go.Proofs.Pen
open Go Go.Proofs
noncomputable def lex_Whole.t (x : ByteArray) : T (Int × Bool) := T.opt (lex_Number x) fun y => T.ite (!y.2) (T.ret ((0 : Int), false)) (T.ite (Int.tmod y.1 (1024 : Int) != (0 : Int)) (T.ret ((0 : Int), false)) (T.ret (W (Int.tdiv y.1 (1024 : Int)), true)))
noncomputable def lex_Whole (x : ByteArray) : Option (Int × Bool) := (lex_Whole.t x).run
noncomputable def lex_Whole.q : List AV → T AV := entry [.str] (outR [TI, .bool]) fun x => .opt (lex_Whole x) .ret
theorem lex_Whole.ok : FnOK Tryz.prog 76 lex_Whole.q :=
  entry_call (ps := [.str]) (rs := [TI, .bool]) (F := ({ quiet := (ext Xs 75 lex_Number.q), deep := noDeep } : Fns)) (D := D0) (S := tabS []) (t := lex_Whole.t) mixed (quiet_ext Xok lex_Number.ok) (deep_none _) Tryz.func76 (by kernel_rfl) (sok_fn trivial) (by kernel_rfl) (fun x => by kernel_rfl)
end Go.Proofs.Pen

namespace Go.Proofs.Pen
open Go Go.Proofs

theorem index_none : ∀ {l : List UInt8} {c : UInt8}, c ∉ l → Lib.indexByte l c = -1
  | [], _, _ => rfl
  | b :: l, c, h => by
    have h1 : b ≠ c := fun e => h (by simp [e])
    have h2 := index_none (l := l) (c := c) fun e => h (by simp [e])
    unfold Lib.indexByte
    rw [if_neg (by simpa using h1), h2]
    rfl
theorem index_first : ∀ {a : List UInt8} {c : UInt8} {b : List UInt8}, c ∉ a → Lib.indexByte (a ++ c :: b) c = (a.length : Int)
  | [], c, b, _ => by
    rw [List.nil_append, Lib.indexByte, if_pos (by simp)]; rfl
  | x :: a, c, b, h => by
    have h1 : x ≠ c := fun e => h (by simp [e])
    have h2 := index_first (a := a) (c := c) (b := b) fun e => h (by simp [e])
    rw [List.cons_append, Lib.indexByte, if_neg (by simpa using h1), h2, if_neg (by simp; try omega)]
    simp
theorem first_of (c : UInt8) : ∀ l : List UInt8, c ∉ l ∨ ∃ a b, l = a ++ c :: b ∧ c ∉ a
  | [] => .inl (by simp)
  | x :: l => by
    by_cases hx : x = c
    · exact .inr ⟨[], l, by simp [hx], by simp⟩
    · rcases first_of c l with h | ⟨a, b, rfl, h⟩
      · exact .inl (by simp only [List.mem_cons, not_or]; exact ⟨fun e => hx e.symm, h⟩)
      · exact .inr ⟨x :: a, b, by simp, by simp only [List.mem_cons, not_or]; exact ⟨fun e => hx e.symm, h⟩⟩

theorem indexB_B (l : List UInt8) (c : UInt8) : indexB (B l) c = Lib.indexByte l c := by unfold indexB; rw [B_data]
theorem byteH_one (c : UInt8) : byteH (B [c]) = c := rfl

theorem cut_none {l : List UInt8} {c : UInt8} (h : c ∉ l) : strings_Cut (B l, B [c]) = some (B l, B [], false) := by
  have : internal_stringslite_Cut (B l, B [c]) = some (B l, B [], false) := by
    unfold internal_stringslite_Cut internal_stringslite_Cut.t
    dsimp only
    rw [tr_yes (by rw [B_size]; rfl), byteH_one, indexB_B, index_none h, tr_no (by decide), tr_ret]
    rfl
  unfold strings_Cut strings_Cut.t
  rw [this, tr_opt, Option.bind_some, tr_ret]
theorem cut_first {a b : List UInt8} {c : UInt8} (h : c ∉ a) (hl : a.length + b.length ≤ 1000) : strings_Cut (B (a ++ c :: b), B [c]) = some (B a, B b, true) := by
  have : internal_stringslite_Cut (B (a ++ c :: b), B [c]) = some (B a, B b, true) := by
    unfold internal_stringslite_Cut internal_stringslite_Cut.t
    dsimp only
    have hs : (a ++ c :: b).length = a.length + b.length + 1 := by simp; omega
    have h1 : ([c] : List UInt8).length = 1 := rfl
    have hW : W ((a.length : Int) + ((1 : Nat) : Int)) = ((a.length + 1 : Nat) : Int) := by rw [W_id (by omega) (by omega)]; omega
    rw [tr_yes (by rw [B_size]; rfl), byteH_one, indexB_B, index_first h, B_size, B_size, hs, h1, hW, tr_yes (by simp), tr_yes (by simp; omega), tr_yes (by simp; omega), tr_ret]
    rw [B_extract, B_extract, Int.toNat_natCast, Int.toNat_natCast, Int.toNat_natCast]
    have e1 : List.drop (Int.toNat 0) (List.take a.length (a ++ c :: b)) = a := by simp
    have e2 : List.drop (a.length + 1) (List.take (a.length + b.length + 1) (a ++ c :: b)) = b := by
      rw [List.take_of_length_le (by omega), show a ++ c :: b = (a ++ [c]) ++ b by simp, List.drop_left' (by simp)]
    rw [e1, e2]
  unfold strings_Cut strings_Cut.t
  rw [this, tr_opt, Option.bind_some, tr_ret]

def hor (a : Nat) (l : List Nat) : Nat := l.foldl (fun a d => 10 * a + d) a
theorem hor_cons (a d : Nat) (l : List Nat) : hor a (d :: l) = hor (10 * a + d) l := rfl
theorem hor_rdig : ∀ (f n k : Nat), n < 10 ^ f → hor 0 (rdig f n k).reverse = n := by
  intro f n k h
  unfold hor
  rw [List.foldl_reverse]
  induction f generalizing n k with
  | zero => simp at h; subst h; rfl
  | succ f ih =>
    simp only [rdig]
    split
    · rename_i hc; rw [hc.1]; rfl
    · rw [List.foldr_cons, ih (n / 10) (k - 1) (by rw [Nat.div_lt_iff_lt_mul (by omega), ← Nat.pow_succ]; exact h)]
      omega
theorem hor_lt : ∀ (l : List Nat) (a j : Nat), (∀ d ∈ l, d < 10) → a < 10 ^ j → hor a l < 10 ^ (j + l.length)
  | [], a, j, _, h => by simpa [hor] using h
  | d :: l, a, j, hl, h => by
    have hd := hl d (by simp)
    have := hor_lt l (10 * a + d) (j + 1) (fun x hx => hl x (by simp [hx])) (by rw [Nat.pow_succ]; omega)
    rw [hor_cons, List.length_cons, show j + (l.length + 1) = j + 1 + l.length by omega]
    exact this

theorem plain_loop : ∀ (post : List Nat) (pre : List UInt8) (a j m : Nat), (∀ d ∈ post, d < 10) → a < 10 ^ j → j + post.length ≤ 17 → pre.length + post.length ≤ 17 → post.length < m →
    (iterT lex_plain.t0 m (B (pre ++ post.map dg), 0, false, (a : Int), ((pre.length + post.length : Nat) : Int), (pre.length : Int), ())).run =
      some (.exit 0, B (pre ++ post.map dg), 0, false, (hor a post : Int), ((pre.length + post.length : Nat) : Int), ((pre.length + post.length : Nat) : Int), ())
  | post, pre, a, j, 0, _, _, _, _, hm => absurd hm (Nat.not_lt_zero _)
  | [], pre, a, j, m + 1, _, _, _, _, _ => by
    have e : (lex_plain.t0 (B (pre ++ ([] : List Nat).map dg), 0, false, (a : Int), ((pre.length + ([] : List Nat).length : Nat) : Int), (pre.length : Int), ())).run = some (.exit 0, B (pre ++ ([] : List Nat).map dg), 0, false, (a : Int), ((pre.length + ([] : List Nat).length : Nat) : Int), (pre.length : Int), ()) := by
      unfold lex_plain.t0
      dsimp only
      rw [tr_no (by simp), tr_ret]
    rw [iter_step e]
    rfl
  | d :: post, pre, a, j, m + 1, hl, ha, hj, hp, hm => by
    have hd := hl d (by simp)
    have hlt : a < 10 ^ 16 := Nat.lt_of_lt_of_le ha (Nat.pow_le_pow_right (by omega) (by simp at hj; omega))
    have hg : sget (B (pre ++ (d :: post).map dg)) (pre.length : Int) = some ((48 + d : Nat) : Int) := by
      rw [sget_B, List.map_cons, List.getElem?_append_right (Nat.le_refl _), Nat.sub_self, List.getElem?_cons_zero, Option.map_some, dg_nat hd]
    have e : (lex_plain.t0 (B (pre ++ (d :: post).map dg), 0, false, (a : Int), ((pre.length + (d :: post).length : Nat) : Int), (pre.length : Int), ())).run = some (.normal, B ((pre ++ [dg d]) ++ post.map dg), 0, false, ((10 * a + d : Nat) : Int), (((pre ++ [dg d]).length + post.length : Nat) : Int), (((pre ++ [dg d]).length : Nat) : Int), ()) := by
      unfold lex_plain.t0
      dsimp only
      rw [tr_yes (by rw [decide_eq_true_eq, List.length_cons]; omega), hg, tr_opt, Option.bind_some, tr_no (by rw [decide_eq_false_iff_not]; omega), tr_opt, Option.bind_some, tr_no (by rw [decide_eq_false_iff_not]; omega), tr_opt, Option.bind_some, tr_ret]
      have hw : IntKind.u8.wrap (((48 + d : Nat) : Int) - 48) = (d : Int) := by
        show (((48 + d : Nat) : Int) - 48) % 256 = (d : Int)
        omega
      rw [hw, W_id (n := (d : Int)) (by omega) (by omega), W_id (n := 10 * (a : Int)) (by omega) (by omega), W_id (by omega) (by omega), W_id (by omega) (by omega)]
      have e1 : pre ++ (d :: post).map dg = (pre ++ [dg d]) ++ post.map dg := by simp
      rw [e1]
      have e2 : 10 * (a : Int) + (d : Int) = ((10 * a + d : Nat) : Int) := by omega
      have e3 : (pre.length : Int) + 1 = (((pre ++ [dg d]).length : Nat) : Int) := by simp
      have e4 : pre.length + (d :: post).length = (pre ++ [dg d]).length + post.length := by simp; omega
      rw [e2, e3, e4]
    rw [iter_step e]
    show (iterT lex_plain.t0 m _).run = _
    rw [plain_loop post (pre ++ [dg d]) (10 * a + d) (j + 1) m (fun x hx => hl x (by simp [hx])) (by rw [Nat.pow_succ]; omega) (by simp at hj; omega) (by simp at hp ⊢; omega) (by simp at hm; omega)]
    have e1 : pre ++ (d :: post).map dg = (pre ++ [dg d]) ++ post.map dg := by simp
    have e4 : pre.length + (d :: post).length = (pre ++ [dg d]).length + post.length := by simp; omega
    rw [e1, e4, hor_cons]
end Go.Proofs.Pen

namespace Go.Proofs.Pen
open Go Go.Proofs

theorem plain_eq {l : List Nat} (hd : ∀ d ∈ l, d < 10) (h0 : l ≠ []) (h1 : l.length ≤ 10) : lex_plain (B (l.map dg)) = some ((hor 0 l : Int), true) := by
  unfold lex_plain lex_plain.t
  have hlp := plain_loop l [] 0 0 rounds hd (by simp) (by omega) (by simp; omega) (rounds_gt (by omega))
  rw [List.nil_append] at hlp
  have hs : (ByteArray.size (B (l.map dg)) : Int) = ((([] : List UInt8).length + l.length : Nat) : Int) := by rw [B_size, List.length_map]; simp
  rw [tr_opt]
  unfold lex_plain.l0
  rw [hs]
  have hlp' : (iterT lex_plain.t0 rounds (B (l.map dg), (0 : Int), false, (0 : Int), ((([] : List UInt8).length + l.length : Nat) : Int), (0 : Int), ())).run = _ := hlp
  rw [hlp', Option.bind_some]
  dsimp only
  rw [tr_yes (by decide), tr_ret, B_toList]
  have hm : ByteArray.mk #[] = B [] := rfl
  rw [hm, B_toList, hs]
  cases l with
  | nil => exact absurd rfl h0
  | cons a l =>
    have : ((List.map dg (a :: l)) == []) = false := rfl
    rw [this]
    have h2 : decide (((([] : List UInt8).length + (a :: l).length : Nat) : Int) ≤ 10) = true := by
      rw [decide_eq_true_eq, List.length_nil, Nat.zero_add]; omega
    rw [h2]
    rfl

theorem plain_total (s : ByteArray) (hs : s.size ≤ 1000) : ∃ n b, lex_plain s = some (n, b) := by
  unfold lex_plain lex_plain.t
  obtain ⟨e, y, h1, h2⟩ := iter_inv (t := lex_plain.t0) (fun x => ∃ (i : Nat) (r1 : Int) (r2 : Bool) (a : Int), x = (s, r1, r2, a, (s.size : Int), (i : Int), ()) ∧ i ≤ s.size) (fun x => s.size - x.2.2.2.2.2.1.toNat) (fun e _ => e = .exit 0 ∨ e = .ret)
    (by
      rintro _ ⟨i, r1, r2, a, rfl, hi⟩
      unfold lex_plain.t0
      dsimp only
      by_cases hlt : i < s.size
      · obtain ⟨v, hv⟩ : ∃ v, sget s (i : Int) = some v := by
          rw [← B_self s, sget_B, List.getElem?_eq_getElem (by rw [Array.length_toList]; exact hlt)]
          exact ⟨_, rfl⟩
        rw [tr_yes (by rw [decide_eq_true_eq]; omega), hv, tr_opt, Option.bind_some, tr_ite]
        split
        · exact ⟨_, _, tr_ret _, .inr ⟨by simp, .inr rfl⟩⟩
        · rw [tr_opt, Option.bind_some, tr_ite]
          split
          · exact ⟨_, _, tr_ret _, .inr ⟨by simp, .inr rfl⟩⟩
          · rw [tr_opt, Option.bind_some, W_id (n := (i : Int) + 1) (by omega) (by omega)]
            refine ⟨_, _, tr_ret _, .inl ⟨rfl, ⟨i + 1, _, _, _, rfl, hlt⟩, ?_⟩⟩
            dsimp only
            omega
      · rw [tr_no (by rw [decide_eq_false_iff_not]; omega)]
        exact ⟨_, _, tr_ret _, .inr ⟨by simp, .inl rfl⟩⟩) rounds (s, (0 : Int), false, (0 : Int), (s.size : Int), (0 : Int), ()) ⟨0, 0, false, 0, rfl, by omega⟩ (rounds_gt (by dsimp only; omega))
  rw [tr_opt]
  unfold lex_plain.l0
  rw [h1, Option.bind_some, tr_ite]
  split
  · exact ⟨_, _, tr_ret _⟩
  · rename_i hn
    rcases h2 with rfl | rfl
    · exact absurd rfl hn
    · exact ⟨_, _, rfl⟩

noncomputable def numFin (k : Int) (x : ByteArray) : T (Int × Bool) :=
  T.opt (lex_Text k) fun y_2 => T.ite (y_2.snd != (0 : Int) || !ByteArray.toList y_2.fst == ByteArray.toList x) (T.ret ((0 : Int), false)) (T.ret (k, true))

def goodR (x : ByteArray) (r : Int × Bool) : Prop := r = (0, false) ∨ (r.2 = true ∧ -1099511627776 ≤ r.1 ∧ r.1 ≤ 1099511627776 ∧ x = B (Tx r.1))

theorem toList_inj {x y : ByteArray} (h : x.toList = y.toList) : x = y := by
  rw [ByteArray.toList_eq, ByteArray.toList_eq] at h
  rw [← B_self x, h, B_self]

theorem fin_good (k : Int) (x : ByteArray) : ∃ r, (numFin k x).run = some r ∧ goodR x r := by
  unfold numFin
  by_cases h : -1099511627776 ≤ k ∧ k ≤ 1099511627776
  · rw [Text_eq h.1 h.2, tr_opt, Option.bind_some]
    by_cases hx : (B (Tx k)).toList = x.toList
    · rw [tr_no (by rw [hx]; simp), tr_ret]
      exact ⟨_, rfl, .inr ⟨rfl, h.1, h.2, (toList_inj hx).symm⟩⟩
    · rw [tr_yes (by simp; exact hx), tr_ret]
      exact ⟨_, rfl, .inl rfl⟩
  · rw [Text_out (by omega), tr_opt, Option.bind_some, tr_ite, if_pos (by simp), tr_ret]
    exact ⟨_, rfl, .inl rfl⟩

theorem fin_eq {k : Int} (h0 : -1099511627776 ≤ k) (h1 : k ≤ 1099511627776) : (numFin k (B (Tx k))).run = some (k, true) := by
  unfold numFin
  rw [Text_eq h0 h1, tr_opt, Option.bind_some, tr_no (by simp), tr_ret]

theorem cut_total (s : ByteArray) (c : UInt8) (hs : s.size ≤ 900) : ∃ a b f, strings_Cut (s, B [c]) = some (a, b, f) ∧ a.size ≤ s.size ∧ b.size ≤ s.size := by
  rw [← B_self s]
  have hl : s.data.toList.length = s.size := by rw [Array.length_toList]; rfl
  generalize s.data.toList = l at *
  rcases first_of c l with h | ⟨a, b, rfl, h⟩
  · exact ⟨_, _, _, cut_none h, Nat.le_refl _, by rw [B_size]; simp⟩
  · simp at hl
    exact ⟨_, _, _, cut_first h (by omega), by rw [B_size, B_size]; simp, by rw [B_size, B_size]; simp; omega⟩

theorem repeat_one (c : UInt8) : ∀ n, Lib.repeatL [c] n = List.replicate n c
  | 0 => rfl
  | n + 1 => by rw [Lib.repeatL, repeat_one c n]; rfl
theorem repB_one (c : UInt8) (n : Nat) : repB (B [c]) (n : Int) = B (List.replicate n c) := by
  unfold repB
  rw [B_data, Int.toNat_natCast, repeat_one]; rfl

theorem pad_some (z : Nat) : (if (0 : Int) > W ((10 : Int) - (z : Int)) then (0 : Int) else W ((10 : Int) - (z : Int))) = ((10 - z : Nat) : Int) ∨ ¬ z ≤ 1000 := by
  by_cases h : z ≤ 1000
  · left
    rw [W_id (by omega) (by omega)]
    split <;> omega
  · exact .inr h
end Go.Proofs.Pen

namespace Go.Proofs.Pen
open Go Go.Proofs

noncomputable def numB (x w r : ByteArray) (c : Int) : T (Int × Bool) :=
  T.opt (lex_plain w) fun y_1 => T.opt (lex_plain (r ++ repB (ByteArray.mk #[48]) c)) fun y => T.ite (!y_1.snd || !y.2) (T.ret ((0 : Int), false)) (T.ite (Int.tmod y.1 (9765625 : Int) != (0 : Int) || decide (y_1.fst > (1073741824 : Int))) (T.ret ((0 : Int), false)) (T.ite (hasP x (ByteArray.mk #[45])) (numFin (W ((0 : Int) - W (W (y_1.fst * (1024 : Int)) + W (Int.tdiv y.1 (9765625 : Int))))) x) (numFin (W (W (y_1.fst * (1024 : Int)) + W (Int.tdiv y.1 (9765625 : Int)))) x)))

theorem num_cut {x : ByteArray} (hx : x.size ≤ 40) {w r : ByteArray} {f : Bool} (hc : strings_Cut (cutP x (B [45]), B [46]) = some (w, r, f)) (hr : r.size ≤ 40) : lex_Number x = (numB x w r ((10 - r.size : Nat) : Int)).run := by
  unfold lex_Number lex_Number.t
  have h45 : ByteArray.mk #[45] = B [45] := rfl
  have h46 : ByteArray.mk #[46] = B [46] := rfl
  have h48 : ByteArray.mk #[48] = B [48] := rfl
  rw [tr_no (by simp; omega), h45, h46, hc, tr_opt, Option.bind_some]
  dsimp only
  rcases pad_some r.size with hp | hp
  · rw [hp]
    have hc1 : (decide ((0 : Int) ≤ ((10 - r.size : Nat) : Int)) && decide (((ByteArray.mk #[48]).size : Int) * ((10 - r.size : Nat) : Int) ≤ (140737488355328 : Int)) && decide (((10 - r.size : Nat) : Int) ≤ (9223372036854775807 : Int))) = true := by
      have : ((ByteArray.mk #[48]).size : Int) = 1 := rfl
      rw [this]
      simp only [Bool.and_eq_true, decide_eq_true_eq]
      omega
    have hc2 : decide (((r.size + (repB (ByteArray.mk #[48]) ((10 - r.size : Nat) : Int)).size : Nat) : Int) > IntKind.i64.max) = false := by
      rw [h48, repB_one, B_size, List.length_replicate]
      exact small (by omega)
    rw [tr_yes hc1, tr_no hc2]
    rfl
  · omega

theorem cutP_size (l : List UInt8) : (cutP (B l) (B [45])).size ≤ l.length := by
  unfold cutP Lib.trimPrefix
  rw [B_data]
  show (B _).size ≤ _
  rw [B_size]
  split
  · rw [List.length_drop]; omega
  · exact Nat.le_refl _

theorem Number_good (x : ByteArray) : ∃ r, lex_Number x = some r ∧ goodR x r := by
  by_cases hx : x.size ≤ 40
  · have hcs : (cutP x (B [45])).size ≤ x.size := by
      have := cutP_size x.data.toList
      rw [B_self, Array.length_toList] at this
      exact this
    obtain ⟨w, r, f, hc, h1, h2⟩ := cut_total (cutP x (B [45])) 46 (by omega)
    rw [num_cut hx hc (by omega)]
    obtain ⟨n1, b1, e1⟩ := plain_total w (by omega)
    have hs : (r ++ repB (ByteArray.mk #[48]) ((10 - r.size : Nat) : Int)).size ≤ 1000 := by
      have h48 : ByteArray.mk #[48] = B [48] := rfl
      rw [ByteArray.size_append, h48, repB_one, B_size, List.length_replicate]; omega
    obtain ⟨n2, b2, e2⟩ := plain_total _ hs
    unfold numB
    rw [e1, tr_opt, Option.bind_some, e2, tr_opt, Option.bind_some, tr_ite]
    split
    · exact ⟨_, tr_ret _, .inl rfl⟩
    · rw [tr_ite]
      split
      · exact ⟨_, tr_ret _, .inl rfl⟩
      · rw [tr_ite]
        split
        · exact fin_good _ _
        · exact fin_good _ _
  · unfold lex_Number lex_Number.t
    rw [tr_yes (by simp; omega)]
    exact ⟨_, tr_ret _, .inl rfl⟩

theorem mem_dgs {f n : Nat} {b : UInt8} (h : b ∈ dgs f n) : ∃ d, d < 10 ∧ b = dg d := by
  unfold dgs at h
  obtain ⟨d, h1, rfl⟩ := List.mem_map.1 h
  exact ⟨d, rdig_lt _ _ _ d (List.mem_reverse.1 h1), rfl⟩
theorem dg_ne {d : Nat} (h : d < 10) {c : UInt8} (hc : c.toNat < 48) : dg d ≠ c := fun e => by
  have := congrArg UInt8.toNat e
  rw [dg_nat h] at this
  omega
theorem dgs_no {f n : Nat} {c : UInt8} (hc : c.toNat < 48) : c ∉ dgs f n := fun h => by
  obtain ⟨d, h1, h2⟩ := mem_dgs h
  exact dg_ne h1 hc h2.symm
theorem fr_pad : ((List.range 1024).all fun f => hor 0 (fr 10 f ++ List.replicate (10 - (fr 10 f).length) 0) == f * 9765625) = true := by kernel_rfl

theorem dgs_ne {f n : Nat} : ∃ d l, d < 10 ∧ dgs (f + 1) n = dg d :: l := by
  have h1 := rdig_pos f n
  cases h : (rdig (f + 1) n 1).reverse with
  | nil =>
    have := congrArg List.length h
    rw [List.length_reverse] at this
    simp at this
    rw [this] at h1; simp at h1
  | cons d l =>
    refine ⟨d, l.map dg, rdig_lt (f + 1) n 1 d (List.mem_reverse.1 (by rw [h]; simp)), ?_⟩
    unfold dgs
    rw [h]; rfl

theorem cutP_neg (l : List UInt8) : cutP (B (45 :: l)) (B [45]) = B l ∧ hasP (B (45 :: l)) (B [45]) = true := by
  unfold cutP hasP Lib.trimPrefix Lib.hasPrefix
  rw [B_data, B_data]
  simp [List.isPrefixOf]
  rfl
theorem cutP_pos {l : List UInt8} {a : UInt8} (h : a ≠ 45) : cutP (B (a :: l)) (B [45]) = B (a :: l) ∧ hasP (B (a :: l)) (B [45]) = false := by
  have h' : (45 == a) = false := by simpa using fun e => h e.symm
  unfold cutP hasP Lib.trimPrefix Lib.hasPrefix
  rw [B_data, B_data]
  simp [List.isPrefixOf, h']
  rfl

theorem cut_Nx (n : Nat) : ∃ f, strings_Cut (B (Nx n), B [46]) = some (B (dgs 10 (n / 1024)), B (fx (n % 1024)), f) := by
  unfold Nx
  split
  · rename_i h
    refine ⟨false, ?_⟩
    rw [List.append_nil, cut_none (dgs_no (by decide)), h]
    rfl
  · exact ⟨_, cut_first (dgs_no (by decide)) (by have := dgs_len 10 (n / 1024); have := fx_len (n % 1024); omega)⟩

theorem numB_eq (x : ByteArray) {n : Nat} (h : n ≤ 1099511627776) : (numB x (B (dgs 10 (n / 1024))) (B (fx (n % 1024))) ((10 - (B (fx (n % 1024))).size : Nat) : Int)).run =
    (T.ite (hasP x (B [45])) (numFin (-(n : Int)) x) (numFin n x)).run := by
  have h48 : ByteArray.mk #[48] = B [48] := rfl
  have h1 : lex_plain (B (dgs 10 (n / 1024))) = some (((n / 1024 : Nat) : Int), true) := by
    have := plain_eq (l := (rdig 10 (n / 1024) 1).reverse) (fun d hd => rdig_lt _ _ _ d (List.mem_reverse.1 hd)) (fun e => by
      have h2 := rdig_pos 9 (n / 1024)
      have := congrArg List.length e
      rw [List.length_reverse] at this
      simp at this
      rw [this] at h2; simp at h2) (by rw [List.length_reverse]; exact rdig_len _ _ _)
    rw [hor_rdig 10 _ _ (by omega)] at this
    exact this
  have hfl := fr_len 10 (n % 1024)
  have h2 : lex_plain (B (fx (n % 1024)) ++ repB (ByteArray.mk #[48]) ((10 - (B (fx (n % 1024))).size : Nat) : Int)) = some (((n % 1024 * 9765625 : Nat) : Int), true) := by
    have hfx : (B (fx (n % 1024))).size = (fr 10 (n % 1024)).length := by rw [B_size]; unfold fx; rw [List.length_map]
    rw [h48, repB_one, B_app, hfx]
    have hr : List.replicate (10 - (fr 10 (n % 1024)).length) (48 : UInt8) = (List.replicate (10 - (fr 10 (n % 1024)).length) 0).map dg := by
      rw [List.map_replicate]; rfl
    unfold fx
    rw [hr, ← List.map_append]
    have hlen : (fr 10 (n % 1024) ++ List.replicate (10 - (fr 10 (n % 1024)).length) 0).length = 10 := by
      rw [List.length_append, List.length_replicate]; omega
    have := plain_eq (l := fr 10 (n % 1024) ++ List.replicate (10 - (fr 10 (n % 1024)).length) 0) (fun d hd => by
      rcases List.mem_append.1 hd with hd | hd
      · exact fr_lt 10 _ (by omega) d hd
      · rw [List.eq_of_mem_replicate hd]; omega) (fun e => by rw [e] at hlen; simp at hlen) (by omega)
    have hp := List.all_eq_true.1 fr_pad (n % 1024) (List.mem_range.2 (by omega))
    rw [eq_of_beq hp] at this
    exact this
  unfold numB
  have e1 : (((n % 1024 * 9765625 : Nat) : Int).tmod 9765625 != 0) = false := by
    rw [Int.tmod_eq_emod_of_nonneg (by omega)]
    have : ((n % 1024 * 9765625 : Nat) : Int) % 9765625 = 0 := by omega
    rw [this]; rfl
  have e2 : W (((n % 1024 * 9765625 : Nat) : Int).tdiv 9765625) = ((n % 1024 : Nat) : Int) := by
    rw [Int.tdiv_eq_ediv_of_nonneg (by omega), W_id (by omega) (by omega)]; omega
  have e3 : W (W (((n / 1024 : Nat) : Int) * 1024) + ((n % 1024 : Nat) : Int)) = (n : Int) := by
    rw [W_id (n := ((n / 1024 : Nat) : Int) * 1024) (by omega) (by omega), W_id (by omega) (by omega)]; omega
  have e4 : W (0 - (n : Int)) = -(n : Int) := by rw [W_id (by omega) (by omega)]; omega
  rw [h1, tr_opt, Option.bind_some, h2, tr_opt, Option.bind_some]
  dsimp only
  rw [tr_no (b := !true || !true) rfl, tr_no (by rw [e1, Bool.false_or, decide_eq_false_iff_not]; omega), e2, e3, e4]
  rfl

theorem Number_back {k : Int} (h0 : -1099511627776 ≤ k) (h1 : k ≤ 1099511627776) : lex_Number (B (Tx k)) = some (k, true) := by
  have hl := Nx_len k.natAbs
  have hsz : (B (Tx k)).size ≤ 40 := by
    rw [B_size]; unfold Tx; rw [List.length_append]; split <;> simp <;> omega
  obtain ⟨f, hf⟩ := cut_Nx k.natAbs
  have hr : (B (fx (k.natAbs % 1024))).size ≤ 40 := by rw [B_size]; have := fx_len (k.natAbs % 1024); omega
  by_cases hk : k < 0
  · have hT : Tx k = 45 :: Nx k.natAbs := by unfold Tx; rw [if_pos hk]; rfl
    obtain ⟨c1, c2⟩ := cutP_neg (Nx k.natAbs)
    rw [num_cut hsz (by rw [hT, c1]; exact hf) hr, numB_eq _ (by omega), hT, c2, tr_yes rfl, ← hT, show -(k.natAbs : Int) = k by omega]
    exact fin_eq h0 h1
  · have hT : Tx k = Nx k.natAbs := by unfold Tx; rw [if_neg hk]; rfl
    obtain ⟨d, l, hd, e⟩ := dgs_ne (f := 9) (n := k.natAbs / 1024)
    obtain ⟨c1, c2⟩ : cutP (B (Nx k.natAbs)) (B [45]) = B (Nx k.natAbs) ∧ hasP (B (Nx k.natAbs)) (B [45]) = false := by
      unfold Nx
      rw [e, List.cons_append]
      exact cutP_pos (dg_ne hd (by decide))
    rw [num_cut hsz (by rw [hT, c1]; exact hf) hr, numB_eq _ (by omega), hT, c2, tr_no rfl, ← hT, show (k.natAbs : Int) = k by omega]
    exact fin_eq h0 h1
end Go.Proofs.Pen

namespace Go.Proofs.Pen
open Go Go.Proofs
noncomputable def ref23_Number.t0 (x : ByteArray × Int × Int × Int × Unit) : T (Ex × ByteArray × Int × Int × Int × Unit) := T.ite (decide (x.2.1 < (↑(ByteArray.size x.1) : Int))) (T.opt (sget x.1 x.2.1) fun y => T.ite (decide (y ≥ (48 : Int))) (T.opt (sget x.1 x.2.1) fun y => T.ite (decide (y ≤ (57 : Int)) && decide (W (x.2.1 - x.2.2.2.1) < (12 : Int))) (T.opt (sget x.1 x.2.1) fun y => T.ret (Ex.normal, x.1, W (x.2.1 + (1 : Int)), W (W (W ((10 : Int) * x.2.2.1) + W y) - (48 : Int)), x.2.2.2.1, ())) (T.ret (Ex.exit (0 : Nat), x.1, x.2.1, x.2.2.1, x.2.2.2.1, ()))) (T.ret (Ex.exit (0 : Nat), x.1, x.2.1, x.2.2.1, x.2.2.2.1, ()))) (T.ret (Ex.exit (0 : Nat), x.1, x.2.1, x.2.2.1, x.2.2.2.1, ()))
noncomputable def ref23_Number.l0 (x : ByteArray × Int × Int × Int × Unit) : Option (Ex × ByteArray × Int × Int × Int × Unit) := (iterT ref23_Number.t0 rounds x).run
noncomputable def ref23_Number.t2 (x : ByteArray × Int × Int × Int × Int × Int × Unit) : T (Ex × ByteArray × Int × Int × Int × Int × Int × Unit) := T.ite (decide (x.2.1 < (↑(ByteArray.size x.1) : Int))) (T.opt (sget x.1 x.2.1) fun y => T.ite (decide (y ≥ (48 : Int))) (T.opt (sget x.1 x.2.1) fun y => T.ite (decide (y ≤ (57 : Int)) && decide (W (x.2.1 - x.2.2.2.2.1) < (10 : Int))) (T.opt (sget x.1 x.2.1) fun y => T.ret (Ex.normal, x.1, W (x.2.1 + (1 : Int)), x.2.2.1, W (x.2.2.2.1 - (1 : Int)), x.2.2.2.2.1, W (W (W ((10 : Int) * x.2.2.2.2.2.1) + W y) - (48 : Int)), ())) (T.ret (Ex.exit (2 : Nat), x.1, x.2.1, x.2.2.1, x.2.2.2.1, x.2.2.2.2.1, x.2.2.2.2.2.1, ()))) (T.ret (Ex.exit (2 : Nat), x.1, x.2.1, x.2.2.1, x.2.2.2.1, x.2.2.2.2.1, x.2.2.2.2.2.1, ()))) (T.ret (Ex.exit (2 : Nat), x.1, x.2.1, x.2.2.1, x.2.2.2.1, x.2.2.2.2.1, x.2.2.2.2.2.1, ()))
noncomputable def ref23_Number.l2 (x : ByteArray × Int × Int × Int × Int × Int × Unit) : Option (Ex × ByteArray × Int × Int × Int × Int × Int × Unit) := (iterT ref23_Number.t2 rounds x).run
noncomputable def ref23_Number.t4 (x : ByteArray × Int × Int × Int × Int × Unit) : T (Ex × ByteArray × Int × Int × Int × Int × Unit) := T.ite (decide (x.2.2.2.1 > (0 : Int))) (T.ret (Ex.normal, x.1, x.2.1, x.2.2.1, W (x.2.2.2.1 - (1 : Int)), W (x.2.2.2.2.1 * (10 : Int)), ())) (T.ret (Ex.exit (4 : Nat), x.1, x.2.1, x.2.2.1, x.2.2.2.1, x.2.2.2.2.1, ()))
noncomputable def ref23_Number.l4 (x : ByteArray × Int × Int × Int × Int × Unit) : Option (Ex × ByteArray × Int × Int × Int × Int × Unit) := (iterT ref23_Number.t4 rounds x).run
noncomputable def ref23_Number.t (x : ByteArray) : T (Int × Bool) := T.ite ((↑(ByteArray.size x) : Int) == (0 : Int) || decide ((↑(ByteArray.size x) : Int) > (24 : Int))) (T.ret ((0 : Int), false)) (T.opt (sget x (0 : Int)) fun y => T.ite (y == (45 : Int)) (T.opt (ref23_Number.l0 (x, (1 : Int), (0 : Int), (1 : Int), ())) fun y => T.ite (exEq y.1 (Ex.exit (0 : Nat))) (T.ite (decide (y.2.2.1 < (↑(ByteArray.size y.2.1) : Int))) (T.opt (sget y.2.1 y.2.2.1) fun y_1 => T.ite (y_1 == (46 : Int)) (T.opt (ref23_Number.l2 (y.2.1, W (y.2.2.1 + (1 : Int)), W (y.2.2.2.1 * (1024 : Int)), (10 : Int), W (y.2.2.1 + (1 : Int)), (0 : Int), ())) fun y => T.ite (exEq y.1 (Ex.exit (2 : Nat))) (T.opt (ref23_Number.l4 (y.2.1, y.2.2.1, y.2.2.2.1, y.2.2.2.2.1, y.2.2.2.2.2.2.1, ())) fun y => T.ite (exEq y.1 (Ex.exit (4 : Nat))) (T.ite (Int.tmod y.2.2.2.2.2.1 (9765625 : Int) != (0 : Int)) (T.ret ((0 : Int), false)) (T.ite (y.2.2.1 != (↑(ByteArray.size y.2.1) : Int) || decide (W (y.2.2.2.1 + W (Int.tdiv y.2.2.2.2.2.1 (9765625 : Int))) > (1099511627776 : Int))) (T.ret ((0 : Int), false)) (T.opt (sget y.2.1 (0 : Int)) fun y_2 => T.ite (y_2 == (45 : Int)) (T.opt (txt1 (W ((0 : Int) - W (y.2.2.2.1 + W (Int.tdiv y.2.2.2.2.2.1 (9765625 : Int)))))) fun y_3 => T.ret (W ((0 : Int) - W (y.2.2.2.1 + W (Int.tdiv y.2.2.2.2.2.1 (9765625 : Int)))), y_3.toList == ByteArray.toList y.2.1)) (T.opt (txt1 (W (y.2.2.2.1 + W (Int.tdiv y.2.2.2.2.2.1 (9765625 : Int))))) fun y_3 => T.ret (W (y.2.2.2.1 + W (Int.tdiv y.2.2.2.2.2.1 (9765625 : Int))), y_3.toList == ByteArray.toList y.2.1))))) T.fail) T.fail) (T.ite (y.2.2.1 != (↑(ByteArray.size y.2.1) : Int) || decide (W (y.2.2.2.1 * (1024 : Int)) > (1099511627776 : Int))) (T.ret ((0 : Int), false)) (T.opt (sget y.2.1 (0 : Int)) fun y_2 => T.ite (y_2 == (45 : Int)) (T.opt (txt1 (W ((0 : Int) - W (y.2.2.2.1 * (1024 : Int))))) fun y_3 => T.ret (W ((0 : Int) - W (y.2.2.2.1 * (1024 : Int))), y_3.toList == ByteArray.toList y.2.1)) (T.opt (txt1 (W (y.2.2.2.1 * (1024 : Int)))) fun y_3 => T.ret (W (y.2.2.2.1 * (1024 : Int)), y_3.toList == ByteArray.toList y.2.1))))) (T.ite (y.2.2.1 != (↑(ByteArray.size y.2.1) : Int) || decide (W (y.2.2.2.1 * (1024 : Int)) > (1099511627776 : Int))) (T.ret ((0 : Int), false)) (T.opt (sget y.2.1 (0 : Int)) fun y_1 => T.ite (y_1 == (45 : Int)) (T.opt (txt1 (W ((0 : Int) - W (y.2.2.2.1 * (1024 : Int))))) fun y_2 => T.ret (W ((0 : Int) - W (y.2.2.2.1 * (1024 : Int))), y_2.toList == ByteArray.toList y.2.1)) (T.opt (txt1 (W (y.2.2.2.1 * (1024 : Int)))) fun y_2 => T.ret (W (y.2.2.2.1 * (1024 : Int)), y_2.toList == ByteArray.toList y.2.1))))) T.fail) (T.opt (ref23_Number.l0 (x, (0 : Int), (0 : Int), (0 : Int), ())) fun y => T.ite (exEq y.1 (Ex.exit (0 : Nat))) (T.ite (decide (y.2.2.1 < (↑(ByteArray.size y.2.1) : Int))) (T.opt (sget y.2.1 y.2.2.1) fun y_1 => T.ite (y_1 == (46 : Int)) (T.opt (ref23_Number.l2 (y.2.1, W (y.2.2.1 + (1 : Int)), W (y.2.2.2.1 * (1024 : Int)), (10 : Int), W (y.2.2.1 + (1 : Int)), (0 : Int), ())) fun y => T.ite (exEq y.1 (Ex.exit (2 : Nat))) (T.opt (ref23_Number.l4 (y.2.1, y.2.2.1, y.2.2.2.1, y.2.2.2.2.1, y.2.2.2.2.2.2.1, ())) fun y => T.ite (exEq y.1 (Ex.exit (4 : Nat))) (T.ite (Int.tmod y.2.2.2.2.2.1 (9765625 : Int) != (0 : Int)) (T.ret ((0 : Int), false)) (T.ite (y.2.2.1 != (↑(ByteArray.size y.2.1) : Int) || decide (W (y.2.2.2.1 + W (Int.tdiv y.2.2.2.2.2.1 (9765625 : Int))) > (1099511627776 : Int))) (T.ret ((0 : Int), false)) (T.opt (sget y.2.1 (0 : Int)) fun y_2 => T.ite (y_2 == (45 : Int)) (T.opt (txt1 (W ((0 : Int) - W (y.2.2.2.1 + W (Int.tdiv y.2.2.2.2.2.1 (9765625 : Int)))))) fun y_3 => T.ret (W ((0 : Int) - W (y.2.2.2.1 + W (Int.tdiv y.2.2.2.2.2.1 (9765625 : Int)))), y_3.toList == ByteArray.toList y.2.1)) (T.opt (txt1 (W (y.2.2.2.1 + W (Int.tdiv y.2.2.2.2.2.1 (9765625 : Int))))) fun y_3 => T.ret (W (y.2.2.2.1 + W (Int.tdiv y.2.2.2.2.2.1 (9765625 : Int))), y_3.toList == ByteArray.toList y.2.1))))) T.fail) T.fail) (T.ite (y.2.2.1 != (↑(ByteArray.size y.2.1) : Int) || decide (W (y.2.2.2.1 * (1024 : Int)) > (1099511627776 : Int))) (T.ret ((0 : Int), false)) (T.opt (sget y.2.1 (0 : Int)) fun y_2 => T.ite (y_2 == (45 : Int)) (T.opt (txt1 (W ((0 : Int) - W (y.2.2.2.1 * (1024 : Int))))) fun y_3 => T.ret (W ((0 : Int) - W (y.2.2.2.1 * (1024 : Int))), y_3.toList == ByteArray.toList y.2.1)) (T.opt (txt1 (W (y.2.2.2.1 * (1024 : Int)))) fun y_3 => T.ret (W (y.2.2.2.1 * (1024 : Int)), y_3.toList == ByteArray.toList y.2.1))))) (T.ite (y.2.2.1 != (↑(ByteArray.size y.2.1) : Int) || decide (W (y.2.2.2.1 * (1024 : Int)) > (1099511627776 : Int))) (T.ret ((0 : Int), false)) (T.opt (sget y.2.1 (0 : Int)) fun y_1 => T.ite (y_1 == (45 : Int)) (T.opt (txt1 (W ((0 : Int) - W (y.2.2.2.1 * (1024 : Int))))) fun y_2 => T.ret (W ((0 : Int) - W (y.2.2.2.1 * (1024 : Int))), y_2.toList == ByteArray.toList y.2.1)) (T.opt (txt1 (W (y.2.2.2.1 * (1024 : Int)))) fun y_2 => T.ret (W (y.2.2.2.1 * (1024 : Int)), y_2.toList == ByteArray.toList y.2.1))))) T.fail))
noncomputable def ref23_Number (x : ByteArray) : Option (Int × Bool) := (ref23_Number.t x).run
end Go.Proofs.Pen

namespace Go.Proofs.Pen
open Go Go.Proofs

def takeD : Nat → List UInt8 → List Nat × List UInt8
  | 0, l => ([], l)
  | _ + 1, [] => ([], [])
  | c + 1, b :: l => if 48 ≤ b.toNat ∧ b.toNat ≤ 57 then ((b.toNat - 48) :: (takeD c l).1, (takeD c l).2) else ([], b :: l)
theorem takeD_lt : ∀ (c : Nat) (l : List UInt8), ∀ d ∈ (takeD c l).1, d < 10
  | 0, _ => by simp [takeD]
  | _ + 1, [] => by simp [takeD]
  | c + 1, b :: l => by
    simp only [takeD]
    split
    · intro d hd
      rcases List.mem_cons.1 hd with rfl | hd
      · omega
      · exact takeD_lt c l d hd
    · simp
theorem takeD_len : ∀ (c : Nat) (l : List UInt8), (takeD c l).1.length ≤ c
  | 0, _ => by simp [takeD]
  | _ + 1, [] => by simp [takeD]
  | c + 1, b :: l => by
    simp only [takeD]
    split
    · have := takeD_len c l; simp only [List.length_cons]; omega
    · simp
theorem takeD_app : ∀ (c : Nat) (l : List UInt8), (takeD c l).1.map dg ++ (takeD c l).2 = l
  | 0, _ => by simp [takeD]
  | _ + 1, [] => by simp [takeD]
  | c + 1, b :: l => by
    simp only [takeD]
    split
    · have := takeD_app c l
      have hb : dg (b.toNat - 48) = b := by
        apply UInt8.toNat_inj.1
        rw [dg_nat (by omega)]; omega
      rw [List.map_cons, hb, List.cons_append, this]
    · rfl
theorem takeD_dg : ∀ (c : Nat) (l : List Nat) (r : List UInt8), (∀ d ∈ l, d < 10) → l.length ≤ c → (r = [] ∨ ∃ b r', r = b :: r' ∧ b.toNat < 48) → takeD c (l.map dg ++ r) = (l, r)
  | 0, [], r, _, _, _ => rfl
  | 0, a :: l, r, _, h, _ => by simp at h
  | c + 1, [], r, _, _, h => by
    rcases h with rfl | ⟨b, r', rfl, hb⟩
    · rfl
    · simp only [List.map_nil, List.nil_append, takeD]
      rw [if_neg (by omega)]
  | c + 1, a :: l, r, hl, h, hr => by
    have ha := hl a (by simp)
    simp only [List.map_cons, List.cons_append, takeD]
    rw [takeD_dg c l r (fun d hd => hl d (by simp [hd])) (by simp at h; omega) hr, dg_nat ha, if_pos (by omega)]
    simp

theorem sget_mid (pre : List UInt8) (b : UInt8) (l : List UInt8) : sget (B (pre ++ b :: l)) (pre.length : Int) = some (b.toNat : Int) := by
  rw [sget_B, List.getElem?_append_right (Nat.le_refl _), Nat.sub_self, List.getElem?_cons_zero, Option.map_some]

theorem l0_loop : ∀ (c : Nat) (l pre : List UInt8) (a j s m : Nat), a < 10 ^ j → j + c ≤ 16 → pre.length + l.length ≤ 100 → pre.length + c = s + 12 → c < m →
    (iterT ref23_Number.t0 m (B (pre ++ l), (pre.length : Int), (a : Int), (s : Int), ())).run = some (.exit 0, B (pre ++ l), ((pre.length + (takeD c l).1.length : Nat) : Int), (hor a (takeD c l).1 : Int), (s : Int), ())
  | c, l, pre, a, j, s, 0, _, _, _, _, hm => absurd hm (Nat.not_lt_zero _)
  | c, [], pre, a, j, s, m + 1, ha, hj, hp, hc, hm => by
    have hd : takeD c [] = ([], []) := by cases c <;> rfl
    have e : (ref23_Number.t0 (B (pre ++ []), (pre.length : Int), (a : Int), (s : Int), ())).run = some (.exit 0, B (pre ++ []), (pre.length : Int), (a : Int), (s : Int), ()) := by
      unfold ref23_Number.t0
      dsimp only
      rw [tr_no (by rw [B_size]; simp), tr_ret]
    rw [iter_step e, hd]
    rfl
  | 0, b :: l, pre, a, j, s, m + 1, ha, hj, hp, hc, hm => by
    have e : (ref23_Number.t0 (B (pre ++ b :: l), (pre.length : Int), (a : Int), (s : Int), ())).run = some (.exit 0, B (pre ++ b :: l), (pre.length : Int), (a : Int), (s : Int), ()) := by
      unfold ref23_Number.t0
      dsimp only
      rw [tr_yes (by rw [B_size, decide_eq_true_eq]; simp; omega), sget_mid, tr_opt, Option.bind_some, tr_ite]
      split
      · rw [tr_opt, Option.bind_some, tr_no (by
          rw [W_id (by omega) (by omega), Bool.and_eq_false_iff]
          exact .inr (by rw [decide_eq_false_iff_not]; omega)), tr_ret]
      · rw [tr_ret]
    rw [iter_step e]
    rfl
  | c + 1, b :: l, pre, a, j, s, m + 1, ha, hj, hp, hc, hm => by
    by_cases hb : 48 ≤ b.toNat ∧ b.toNat ≤ 57
    · have hlt : a < 10 ^ 15 := Nat.lt_of_lt_of_le ha (Nat.pow_le_pow_right (by omega) (by omega))
      have e : (ref23_Number.t0 (B (pre ++ b :: l), (pre.length : Int), (a : Int), (s : Int), ())).run = some (.normal, B ((pre ++ [b]) ++ l), (((pre ++ [b]).length : Nat) : Int), ((10 * a + (b.toNat - 48) : Nat) : Int), (s : Int), ()) := by
        unfold ref23_Number.t0
        dsimp only
        have hp' : pre.length + l.length + 1 ≤ 100 := by simp at hp; omega
        rw [tr_yes (by rw [B_size, decide_eq_true_eq]; simp; omega), sget_mid, tr_opt, Option.bind_some, tr_yes (by rw [decide_eq_true_eq]; omega), tr_opt, Option.bind_some, tr_yes (by
          rw [W_id (by omega) (by omega), Bool.and_eq_true, decide_eq_true_eq, decide_eq_true_eq]; omega), tr_opt, Option.bind_some, tr_ret]
        rw [W_id (n := (b.toNat : Int)) (by omega) (by omega), W_id (n := 10 * (a : Int)) (by omega) (by omega), W_id (n := 10 * (a : Int) + _) (by omega) (by omega), W_id (by omega) (by omega), W_id (by omega) (by omega)]
        have e1 : pre ++ b :: l = (pre ++ [b]) ++ l := by simp
        have e2 : 10 * (a : Int) + (b.toNat : Int) - 48 = ((10 * a + (b.toNat - 48) : Nat) : Int) := by omega
        have e3 : (pre.length : Int) + 1 = (((pre ++ [b]).length : Nat) : Int) := by simp
        rw [e1, e2, e3]
      rw [iter_step e]
      show (iterT ref23_Number.t0 m _).run = _
      rw [l0_loop c l (pre ++ [b]) (10 * a + (b.toNat - 48)) (j + 1) s m (by rw [Nat.pow_succ]; omega) (by omega) (by simp at hp ⊢; omega) (by simp; omega) (by omega)]
      simp only [takeD, if_pos hb, hor_cons, List.length_cons, List.length_append, List.append_assoc, List.cons_append, List.nil_append, List.length_nil]
      rw [show pre.length + (0 + 1) + (takeD c l).1.length = pre.length + ((takeD c l).1.length + 1) by omega]
    · have e : (ref23_Number.t0 (B (pre ++ b :: l), (pre.length : Int), (a : Int), (s : Int), ())).run = some (.exit 0, B (pre ++ b :: l), (pre.length : Int), (a : Int), (s : Int), ()) := by
        unfold ref23_Number.t0
        dsimp only
        rw [tr_yes (by rw [B_size, decide_eq_true_eq]; simp; omega), sget_mid, tr_opt, Option.bind_some, tr_ite]
        split
        · rename_i h1
          rw [decide_eq_true_eq] at h1
          rw [tr_opt, Option.bind_some, tr_no (by
            rw [Bool.and_eq_false_iff]
            exact .inl (by rw [decide_eq_false_iff_not]; omega)), tr_ret]
        · rw [tr_ret]
      rw [iter_step e]
      simp only [takeD, if_neg hb]
      rfl

theorem l2_loop : ∀ (c : Nat) (l pre : List UInt8) (a j s m : Nat) (k : Int), a < 10 ^ j → j + c ≤ 16 → pre.length + l.length ≤ 100 → pre.length + c = s + 10 → c < m →
    (iterT ref23_Number.t2 m (B (pre ++ l), (pre.length : Int), k, (c : Int), (s : Int), (a : Int), ())).run = some (.exit 2, B (pre ++ l), ((pre.length + (takeD c l).1.length : Nat) : Int), k, ((c - (takeD c l).1.length : Nat) : Int), (s : Int), (hor a (takeD c l).1 : Int), ())
  | c, l, pre, a, j, s, 0, k, _, _, _, _, hm => absurd hm (Nat.not_lt_zero _)
  | c, [], pre, a, j, s, m + 1, k, ha, hj, hp, hc, hm => by
    have hd : takeD c [] = ([], []) := by cases c <;> rfl
    have e : (ref23_Number.t2 (B (pre ++ []), (pre.length : Int), k, (c : Int), (s : Int), (a : Int), ())).run = some (.exit 2, B (pre ++ []), (pre.length : Int), k, (c : Int), (s : Int), (a : Int), ()) := by
      unfold ref23_Number.t2
      dsimp only
      rw [tr_no (by rw [B_size]; simp), tr_ret]
    rw [iter_step e, hd]
    rfl
  | 0, b :: l, pre, a, j, s, m + 1, k, ha, hj, hp, hc, hm => by
    have e : (ref23_Number.t2 (B (pre ++ b :: l), (pre.length : Int), k, ((0 : Nat) : Int), (s : Int), (a : Int), ())).run = some (.exit 2, B (pre ++ b :: l), (pre.length : Int), k, ((0 : Nat) : Int), (s : Int), (a : Int), ()) := by
      unfold ref23_Number.t2
      dsimp only
      rw [tr_yes (by rw [B_size, decide_eq_true_eq]; simp; omega), sget_mid, tr_opt, Option.bind_some, tr_ite]
      split
      · rw [tr_opt, Option.bind_some, tr_no (by
          rw [W_id (by omega) (by omega), Bool.and_eq_false_iff]
          exact .inr (by rw [decide_eq_false_iff_not]; omega)), tr_ret]
      · rw [tr_ret]
    rw [iter_step e]
    rfl
  | c + 1, b :: l, pre, a, j, s, m + 1, k, ha, hj, hp, hc, hm => by
    by_cases hb : 48 ≤ b.toNat ∧ b.toNat ≤ 57
    · have hlt : a < 10 ^ 15 := Nat.lt_of_lt_of_le ha (Nat.pow_le_pow_right (by omega) (by omega))
      have e : (ref23_Number.t2 (B (pre ++ b :: l), (pre.length : Int), k, ((c + 1 : Nat) : Int), (s : Int), (a : Int), ())).run = some (.normal, B ((pre ++ [b]) ++ l), (((pre ++ [b]).length : Nat) : Int), k, (c : Int), (s : Int), ((10 * a + (b.toNat - 48) : Nat) : Int), ()) := by
        unfold ref23_Number.t2
        dsimp only
        have hp' : pre.length + l.length + 1 ≤ 100 := by simp at hp; omega
        rw [tr_yes (by rw [B_size, decide_eq_true_eq]; simp; omega), sget_mid, tr_opt, Option.bind_some, tr_yes (by rw [decide_eq_true_eq]; omega), tr_opt, Option.bind_some, tr_yes (by
          rw [W_id (by omega) (by omega), Bool.and_eq_true, decide_eq_true_eq, decide_eq_true_eq]; omega), tr_opt, Option.bind_some, tr_ret]
        rw [W_id (n := (b.toNat : Int)) (by omega) (by omega), W_id (n := 10 * (a : Int)) (by omega) (by omega), W_id (n := 10 * (a : Int) + _) (by omega) (by omega), W_id (n := (pre.length : Int) + 1) (by omega) (by omega), W_id (n := ((c + 1 : Nat) : Int) - 1) (by omega) (by omega), W_id (by omega) (by omega)]
        have e1 : pre ++ b :: l = (pre ++ [b]) ++ l := by simp
        have e2 : 10 * (a : Int) + (b.toNat : Int) - 48 = ((10 * a + (b.toNat - 48) : Nat) : Int) := by omega
        have e3 : (pre.length : Int) + 1 = (((pre ++ [b]).length : Nat) : Int) := by simp
        have e4 : ((c + 1 : Nat) : Int) - 1 = (c : Int) := by omega
        rw [e1, e2, e3, e4]
      rw [iter_step e]
      show (iterT ref23_Number.t2 m _).run = _
      rw [l2_loop c l (pre ++ [b]) (10 * a + (b.toNat - 48)) (j + 1) s m k (by rw [Nat.pow_succ]; omega) (by omega) (by simp at hp ⊢; omega) (by simp; omega) (by omega)]
      simp only [takeD, if_pos hb, hor_cons, List.length_cons, List.length_append, List.append_assoc, List.cons_append, List.nil_append, List.length_nil]
      rw [show pre.length + (0 + 1) + (takeD c l).1.length = pre.length + ((takeD c l).1.length + 1) by omega, show c + 1 - ((takeD c l).1.length + 1) = c - (takeD c l).1.length by omega]
    · have e : (ref23_Number.t2 (B (pre ++ b :: l), (pre.length : Int), k, ((c + 1 : Nat) : Int), (s : Int), (a : Int), ())).run = some (.exit 2, B (pre ++ b :: l), (pre.length : Int), k, ((c + 1 : Nat) : Int), (s : Int), (a : Int), ()) := by
        unfold ref23_Number.t2
        dsimp only
        rw [tr_yes (by rw [B_size, decide_eq_true_eq]; simp; omega), sget_mid, tr_opt, Option.bind_some, tr_ite]
        split
        · rename_i h1
          rw [decide_eq_true_eq] at h1
          rw [tr_opt, Option.bind_some, tr_no (by
            rw [Bool.and_eq_false_iff]
            exact .inl (by rw [decide_eq_false_iff_not]; omega)), tr_ret]
        · rw [tr_ret]
      rw [iter_step e]
      simp only [takeD, if_neg hb]
      rfl

theorem l4_loop (s : ByteArray) (i k : Int) : ∀ (c a m : Nat), a * 10 ^ c < 2 ^ 62 → c ≤ 100 → c < m →
    (iterT ref23_Number.t4 m (s, i, k, (c : Int), (a : Int), ())).run = some (.exit 4, s, i, k, 0, ((a * 10 ^ c : Nat) : Int), ())
  | c, a, 0, _, _, hm => absurd hm (Nat.not_lt_zero _)
  | 0, a, m + 1, _, _, _ => by
    have e : (ref23_Number.t4 (s, i, k, ((0 : Nat) : Int), (a : Int), ())).run = some (.exit 4, s, i, k, 0, (a : Int), ()) := by
      unfold ref23_Number.t4
      dsimp only
      rw [tr_no (by simp), tr_ret]
      rfl
    rw [iter_step e, Nat.pow_zero, Nat.mul_one]
  | c + 1, a, m + 1, ha, hc, hm => by
    have h1 : a * 10 * 10 ^ c < 2 ^ 62 := by rw [Nat.mul_assoc, ← Nat.pow_succ']; exact ha
    have h2 : a * 10 ≤ a * 10 * 10 ^ c := Nat.le_mul_of_pos_right _ (Nat.pow_pos (by omega))
    have e : (ref23_Number.t4 (s, i, k, ((c + 1 : Nat) : Int), (a : Int), ())).run = some (.normal, s, i, k, (c : Int), ((a * 10 : Nat) : Int), ()) := by
      unfold ref23_Number.t4
      dsimp only
      rw [tr_yes (by rw [decide_eq_true_eq]; omega), tr_ret, W_id (by omega) (by omega), W_id (by omega) (by omega)]
      rw [show ((c + 1 : Nat) : Int) - 1 = (c : Int) by omega, show (a : Int) * 10 = ((a * 10 : Nat) : Int) by omega]
    rw [iter_step e]
    show (iterT ref23_Number.t4 m _).run = _
    rw [l4_loop s i k c (a * 10) m h1 (by omega) (by omega), Nat.mul_assoc, ← Nat.pow_succ']
end Go.Proofs.Pen

namespace Go.Proofs.Pen
open Go Go.Proofs

noncomputable def numE (s : ByteArray) (i k : Int) : T (Int × Bool) :=
  T.ite (i != (↑(ByteArray.size s) : Int) || decide (k > (1099511627776 : Int))) (T.ret ((0 : Int), false)) (T.opt (sget s (0 : Int)) fun y_2 => T.ite (y_2 == (45 : Int)) (T.opt (txt1 (W ((0 : Int) - k))) fun y_3 => T.ret (W ((0 : Int) - k), y_3.toList == ByteArray.toList s)) (T.opt (txt1 k) fun y_3 => T.ret (k, y_3.toList == ByteArray.toList s)))

noncomputable def numP (x : ByteArray) (i0 : Int) : T (Int × Bool) :=
  T.opt (ref23_Number.l0 (x, i0, (0 : Int), i0, ())) fun y => T.ite (exEq y.1 (Ex.exit (0 : Nat))) (T.ite (decide (y.2.2.1 < (↑(ByteArray.size y.2.1) : Int))) (T.opt (sget y.2.1 y.2.2.1) fun y_1 => T.ite (y_1 == (46 : Int)) (T.opt (ref23_Number.l2 (y.2.1, W (y.2.2.1 + (1 : Int)), W (y.2.2.2.1 * (1024 : Int)), (10 : Int), W (y.2.2.1 + (1 : Int)), (0 : Int), ())) fun y => T.ite (exEq y.1 (Ex.exit (2 : Nat))) (T.opt (ref23_Number.l4 (y.2.1, y.2.2.1, y.2.2.2.1, y.2.2.2.2.1, y.2.2.2.2.2.2.1, ())) fun y => T.ite (exEq y.1 (Ex.exit (4 : Nat))) (T.ite (Int.tmod y.2.2.2.2.2.1 (9765625 : Int) != (0 : Int)) (T.ret ((0 : Int), false)) (numE y.2.1 y.2.2.1 (W (y.2.2.2.1 + W (Int.tdiv y.2.2.2.2.2.1 (9765625 : Int)))))) T.fail) T.fail) (numE y.2.1 y.2.2.1 (W (y.2.2.2.1 * (1024 : Int))))) (numE y.2.1 y.2.2.1 (W (y.2.2.2.1 * (1024 : Int))))) T.fail

theorem ref_tree (x : ByteArray) : ref23_Number.t x = T.ite ((↑(ByteArray.size x) : Int) == (0 : Int) || decide ((↑(ByteArray.size x) : Int) > (24 : Int))) (T.ret ((0 : Int), false)) (T.opt (sget x (0 : Int)) fun y => T.ite (y == (45 : Int)) (numP x 1) (numP x 0)) := rfl

def goodQ (x : ByteArray) (r : Int × Bool) : Prop := r.2 = true → -1099511627776 ≤ r.1 ∧ r.1 ≤ 1099511627776 ∧ x = B (Tx r.1)

theorem numE_good (l : List UInt8) (hl : l ≠ []) (i : Int) {k : Nat} (hk : k < 2 ^ 62) : ∃ r, (numE (B l) i k).run = some r ∧ goodQ (B l) r := by
  unfold numE
  rw [tr_ite]
  split
  · exact ⟨_, tr_ret _, fun h => by cases h⟩
  · rename_i h
    simp only [Bool.or_eq_true, decide_eq_true_eq, not_or] at h
    have hk2 := h.2
    cases l with
    | nil => exact absurd rfl hl
    | cons b l =>
      have hs : sget (B (b :: l)) (0 : Int) = some (b.toNat : Int) := sget_mid [] b l
      have hW : W (0 - (k : Int)) = -(k : Int) := by rw [W_id (by omega) (by omega)]; omega
      rw [hs, tr_opt, Option.bind_some, tr_ite, hW]
      split
      · rw [txt1_eq (by omega) (by omega), tr_opt, Option.bind_some, tr_ret]
        refine ⟨_, rfl, fun hr => ?_⟩
        exact ⟨by dsimp only; omega, by dsimp only; omega, (toList_inj (eq_of_beq hr)).symm⟩
      · rw [txt1_eq (by omega) (by omega), tr_opt, Option.bind_some, tr_ret]
        refine ⟨_, rfl, fun hr => ?_⟩
        exact ⟨by dsimp only; omega, by dsimp only; omega, (toList_inj (eq_of_beq hr)).symm⟩

theorem numE_eq {k : Int} (h0 : -1099511627776 ≤ k) (h1 : k ≤ 1099511627776) : (numE (B (Tx k)) (((Tx k).length : Nat) : Int) (k.natAbs : Int)).run = some (k, true) := by
  unfold numE
  rw [B_size, tr_no (by
    rw [Bool.or_eq_false_iff]
    exact ⟨by simp, by rw [decide_eq_false_iff_not]; omega⟩)]
  by_cases hk : k < 0
  · have hT : Tx k = 45 :: Nx k.natAbs := by unfold Tx; rw [if_pos hk]; rfl
    have hs : sget (B (Tx k)) (0 : Int) = some ((45 : Nat) : Int) := by rw [hT]; exact sget_mid [] 45 _
    have hW : W (0 - (k.natAbs : Int)) = k := by rw [W_id (by omega) (by omega)]; omega
    rw [hs, tr_opt, Option.bind_some, tr_yes (b := (((45 : Nat) : Int) == 45)) rfl, hW, txt1_eq h0 h1, tr_opt, Option.bind_some, tr_ret]
    simp
  · obtain ⟨d, l, hd, e⟩ := dgs_ne (f := 9) (n := k.natAbs / 1024)
    have hT : ∃ r, Tx k = dg d :: r := by unfold Tx Nx; rw [if_neg hk, e]; exact ⟨_, rfl⟩
    obtain ⟨r, hT⟩ := hT
    have hs : sget (B (Tx k)) (0 : Int) = some ((dg d).toNat : Int) := by rw [hT]; exact sget_mid [] (dg d) _
    rw [hs, tr_opt, Option.bind_some, tr_no (by rw [dg_nat hd]; simp; omega), show (k.natAbs : Int) = k by omega, txt1_eq h0 h1, tr_opt, Option.bind_some, tr_ret]
    simp

theorem numP_eq (pre l : List UInt8) (hp : pre.length ≤ 1) (hl : pre.length + l.length ≤ 24) :
    (numP (B (pre ++ l)) (pre.length : Int)).run =
      match (takeD 12 l).2 with
      | [] => (numE (B (pre ++ l)) ((pre.length + (takeD 12 l).1.length : Nat) : Int) ((hor 0 (takeD 12 l).1 * 1024 : Nat) : Int)).run
      | b :: r => if b.toNat = 46 then
          if hor 0 (takeD 10 r).1 * 10 ^ (10 - (takeD 10 r).1.length) % 9765625 = 0 then
            (numE (B (pre ++ l)) ((pre.length + (takeD 12 l).1.length + 1 + (takeD 10 r).1.length : Nat) : Int) ((hor 0 (takeD 12 l).1 * 1024 + hor 0 (takeD 10 r).1 * 10 ^ (10 - (takeD 10 r).1.length) / 9765625 : Nat) : Int)).run
          else some (0, false)
        else (numE (B (pre ++ l)) ((pre.length + (takeD 12 l).1.length : Nat) : Int) ((hor 0 (takeD 12 l).1 * 1024 : Nat) : Int)).run := by
  have hn : hor 0 (takeD 12 l).1 < 10 ^ 12 := Nat.lt_of_lt_of_le (hor_lt _ 0 0 (takeD_lt 12 l) (by simp)) (Nat.pow_le_pow_right (by omega) (by have := takeD_len 12 l; omega))
  have happ := takeD_app 12 l
  have hlen : (takeD 12 l).1.length + (takeD 12 l).2.length = l.length := by
    have := congrArg List.length happ
    rw [List.length_append, List.length_map] at this
    exact this
  have h0 := l0_loop 12 l pre 0 0 pre.length rounds (by simp) (by omega) (by omega) (by omega) (rounds_gt (by omega))
  have h0' : (iterT ref23_Number.t0 rounds (B (pre ++ l), (pre.length : Int), (0 : Int), (pre.length : Int), ())).run = _ := h0
  unfold numP ref23_Number.l0
  rw [h0', tr_opt, Option.bind_some]
  dsimp only
  rw [tr_yes (by decide)]
  have hW : W ((hor 0 (takeD 12 l).1 : Int) * 1024) = ((hor 0 (takeD 12 l).1 * 1024 : Nat) : Int) := by rw [W_id (by omega) (by omega)]; omega
  rw [hW]
  generalize hds : (takeD 12 l).1 = ds at *
  generalize hn' : hor 0 ds = n at *
  cases hr : (takeD 12 l).2 with
  | nil =>
    rw [hr] at hlen
    rw [tr_no (by rw [B_size, List.length_append, decide_eq_false_iff_not]; simp at hlen; omega)]
  | cons b r =>
    rw [hr] at hlen happ
    have hlt : (decide (((pre.length + ds.length : Nat) : Int) < (ByteArray.size (B (pre ++ l)) : Int))) = true := by rw [B_size, List.length_append, decide_eq_true_eq]; simp at hlen; omega
    have hpl : pre ++ l = (pre ++ ds.map dg) ++ b :: r := by rw [List.append_assoc, happ]
    have hs : sget (B (pre ++ l)) ((pre.length + ds.length : Nat) : Int) = some (b.toNat : Int) := by
      rw [hpl, show ((pre.length + ds.length : Nat) : Int) = (((pre ++ ds.map dg).length : Nat) : Int) by simp]
      exact sget_mid _ _ _
    rw [tr_yes hlt, hs, tr_opt, Option.bind_some, tr_ite]
    dsimp only
    by_cases hb : b.toNat = 46
    · rw [if_pos (by rw [hb]; rfl), if_pos hb]
      have hfl := takeD_len 10 r
      have hf : hor 0 (takeD 10 r).1 < 10 ^ (0 + (takeD 10 r).1.length) := hor_lt _ 0 0 (takeD_lt 10 r) (by simp)
      have hf2 : hor 0 (takeD 10 r).1 * 10 ^ (10 - (takeD 10 r).1.length) < 10 ^ 10 := by
        have h1 : hor 0 (takeD 10 r).1 * 10 ^ (10 - (takeD 10 r).1.length) < 10 ^ (0 + (takeD 10 r).1.length) * 10 ^ (10 - (takeD 10 r).1.length) := Nat.mul_lt_mul_of_pos_right hf (Nat.pow_pos (by omega))
        rw [← Nat.pow_add, show 0 + (takeD 10 r).1.length + (10 - (takeD 10 r).1.length) = 10 by omega] at h1
        exact h1
      have hW1 : W (((pre.length + ds.length : Nat) : Int) + 1) = (((pre ++ ds.map dg ++ [b]).length : Nat) : Int) := by
        rw [W_id (by simp at hlen; omega) (by simp at hlen; omega)]; simp; omega
      have h2 := l2_loop 10 r (pre ++ ds.map dg ++ [b]) 0 0 (pre ++ ds.map dg ++ [b]).length rounds ((n * 1024 : Nat) : Int) (by simp) (by omega) (by simp at hlen ⊢; omega) (by omega) (rounds_gt (by omega))
      have hpl2 : (pre ++ ds.map dg ++ [b]) ++ r = pre ++ l := by rw [hpl]; simp
      rw [hpl2] at h2
      have h2' : (iterT ref23_Number.t2 rounds (B (pre ++ l), (((pre ++ ds.map dg ++ [b]).length : Nat) : Int), ((n * 1024 : Nat) : Int), (10 : Int), (((pre ++ ds.map dg ++ [b]).length : Nat) : Int), (0 : Int), ())).run = _ := h2
      unfold ref23_Number.l2
      rw [hW1, tr_opt, h2', Option.bind_some]
      dsimp only
      rw [tr_yes (by decide), tr_opt]
      unfold ref23_Number.l4
      rw [l4_loop (B (pre ++ l)) _ _ (10 - (takeD 10 r).1.length) (hor 0 (takeD 10 r).1) rounds (by omega) (by omega) (rounds_gt (by omega)), Option.bind_some]
      dsimp only
      rw [tr_yes (by decide)]
      have hlen3 : (pre ++ ds.map dg ++ [b]).length = pre.length + ds.length + 1 := by simp; omega
      rw [hlen3]
      generalize hor 0 (takeD 10 r).1 * 10 ^ (10 - (takeD 10 r).1.length) = f at *
      have e1 : (f : Int).tmod 9765625 = ((f % 9765625 : Nat) : Int) := by rw [Int.tmod_eq_emod_of_nonneg (by omega)]; omega
      have e2 : W ((f : Int).tdiv 9765625) = ((f / 9765625 : Nat) : Int) := by
        rw [Int.tdiv_eq_ediv_of_nonneg (by omega), W_id (by omega) (by omega)]; omega
      have e3 : W (((n * 1024 : Nat) : Int) + ((f / 9765625 : Nat) : Int)) = ((n * 1024 + f / 9765625 : Nat) : Int) := by
        rw [W_id (by omega) (by omega)]; omega
      rw [e1, e2, e3, tr_ite]
      by_cases hz : f % 9765625 = 0
      · rw [if_neg (by rw [hz]; decide), if_pos hz]
      · rw [if_pos (by simp; omega), if_neg hz, tr_ret]
    · rw [if_neg (by simp; omega), if_neg hb]
end Go.Proofs.Pen

namespace Go.Proofs.Pen
open Go Go.Proofs

theorem hor12 (l : List UInt8) : hor 0 (takeD 12 l).1 < 10 ^ 12 := Nat.lt_of_lt_of_le (hor_lt _ 0 0 (takeD_lt 12 l) (by simp)) (Nat.pow_le_pow_right (by omega) (by have := takeD_len 12 l; omega))
theorem hor10 (r : List UInt8) : hor 0 (takeD 10 r).1 * 10 ^ (10 - (takeD 10 r).1.length) < 10 ^ 10 := by
  have hfl := takeD_len 10 r
  have hf : hor 0 (takeD 10 r).1 < 10 ^ (0 + (takeD 10 r).1.length) := hor_lt _ 0 0 (takeD_lt 10 r) (by simp)
  have h1 : hor 0 (takeD 10 r).1 * 10 ^ (10 - (takeD 10 r).1.length) < 10 ^ (0 + (takeD 10 r).1.length) * 10 ^ (10 - (takeD 10 r).1.length) := Nat.mul_lt_mul_of_pos_right hf (Nat.pow_pos (by omega))
  rw [← Nat.pow_add, show 0 + (takeD 10 r).1.length + (10 - (takeD 10 r).1.length) = 10 by omega] at h1
  exact h1

theorem numP_good (pre l : List UInt8) (hp : pre.length ≤ 1) (hl : pre.length + l.length ≤ 24) (hn : pre ++ l ≠ []) :
    ∃ r, (numP (B (pre ++ l)) (pre.length : Int)).run = some r ∧ goodQ (B (pre ++ l)) r := by
  rw [numP_eq pre l hp hl]
  have h1 := hor12 l
  split
  · exact numE_good _ hn _ (by omega)
  · rename_i b r _
    have h2 := hor10 r
    split
    · split
      · exact numE_good _ hn _ (by omega)
      · exact ⟨_, rfl, fun h => by cases h⟩
    · exact numE_good _ hn _ (by omega)

theorem ref_good (x : ByteArray) : ∃ r, ref23_Number x = some r ∧ goodQ x r := by
  unfold ref23_Number
  rw [ref_tree, tr_ite]
  split
  · exact ⟨_, tr_ret _, fun h => by cases h⟩
  · rename_i h
    simp only [Bool.or_eq_true, beq_iff_eq, decide_eq_true_eq, not_or] at h
    rw [← B_self x] at h ⊢
    generalize x.data.toList = l at *
    rw [B_size] at h
    cases l with
    | nil => simp at h
    | cons b l =>
      have hs : sget (B (b :: l)) (0 : Int) = some (b.toNat : Int) := sget_mid [] b l
      have hle : l.length + 1 ≤ 24 := by simp at h; omega
      rw [hs, tr_opt, Option.bind_some, tr_ite]
      split
      · exact numP_good [b] l (by simp) (by simp; omega) (by simp)
      · exact numP_good [] (b :: l) (by simp) (by simp; omega) (by simp)

theorem fr_full : ((List.range 1024).all fun f => hor 0 (fr 10 f) * 10 ^ (10 - (fr 10 f).length) == f * 9765625) = true := by kernel_rfl

theorem numP_back (pre : List UInt8) {k : Int} (h0 : -1099511627776 ≤ k) (h1 : k ≤ 1099511627776) (hp : pre.length ≤ 1) (hT : Tx k = pre ++ Nx k.natAbs) : (numP (B (Tx k)) (pre.length : Int)).run = some (k, true) := by
  have hl := Nx_len k.natAbs
  have hd : takeD 12 (Nx k.natAbs) = ((rdig 10 (k.natAbs / 1024) 1).reverse, if k.natAbs % 1024 = 0 then [] else 46 :: fx (k.natAbs % 1024)) := by
    unfold Nx dgs
    refine takeD_dg 12 _ _ (fun d hd => rdig_lt _ _ _ d (List.mem_reverse.1 hd)) (by rw [List.length_reverse]; have := rdig_len 10 (k.natAbs / 1024) 1; omega) ?_
    split
    · exact .inl rfl
    · exact .inr ⟨_, _, rfl, by decide⟩
  have hq : hor 0 (rdig 10 (k.natAbs / 1024) 1).reverse = k.natAbs / 1024 := hor_rdig 10 _ _ (by omega)
  have hfin := numE_eq h0 h1
  have hlen : (Tx k).length = pre.length + (rdig 10 (k.natAbs / 1024) 1).reverse.length + (if k.natAbs % 1024 = 0 then [] else 46 :: fx (k.natAbs % 1024)).length := by
    rw [hT]; unfold Nx dgs
    rw [List.length_append, List.length_append, List.length_map]; omega
  have he := numP_eq pre (Nx k.natAbs) hp (by omega)
  rw [← hT, hd] at he
  rw [he]
  dsimp only
  by_cases hz : k.natAbs % 1024 = 0
  · rw [if_pos hz] at hlen ⊢
    dsimp only
    rw [hlen] at hfin
    rw [hq, show k.natAbs / 1024 * 1024 = k.natAbs by omega]
    exact hfin
  · rw [if_neg hz] at hlen ⊢
    dsimp only
    rw [if_pos (by decide)]
    have ht : takeD 10 (fx (k.natAbs % 1024)) = (fr 10 (k.natAbs % 1024), []) := by
      have := takeD_dg 10 (fr 10 (k.natAbs % 1024)) [] (fr_lt 10 _ (by omega)) (fr_len _ _) (.inl rfl)
      rw [List.append_nil] at this
      exact this
    have hff := eq_of_beq (List.all_eq_true.1 fr_full (k.natAbs % 1024) (List.mem_range.2 (by omega)))
    rw [ht]
    dsimp only
    rw [hff, hq, if_pos (by omega), show k.natAbs / 1024 * 1024 + k.natAbs % 1024 * 9765625 / 9765625 = k.natAbs by omega]
    have hl2 : (Tx k).length = pre.length + (rdig 10 (k.natAbs / 1024) 1).reverse.length + 1 + (fr 10 (k.natAbs % 1024)).length := by
      rw [hlen, List.length_cons]; unfold fx; rw [List.length_map]; omega
    rw [hl2] at hfin
    exact hfin

theorem ref_back {k : Int} (h0 : -1099511627776 ≤ k) (h1 : k ≤ 1099511627776) : ref23_Number (B (Tx k)) = some (k, true) := by
  have hl := Nx_len k.natAbs
  unfold ref23_Number
  rw [ref_tree]
  by_cases hk : k < 0
  · have hT : Tx k = [45] ++ Nx k.natAbs := by unfold Tx; rw [if_pos hk]
    have hs : sget (B (Tx k)) (0 : Int) = some ((45 : Nat) : Int) := by rw [hT]; exact sget_mid [] 45 _
    rw [tr_no (by rw [B_size, hT, Bool.or_eq_false_iff]; exact ⟨by simp; omega, by rw [decide_eq_false_iff_not]; simp; omega⟩), hs, tr_opt, Option.bind_some, tr_yes (b := (((45 : Nat) : Int) == 45)) rfl]
    exact numP_back [45] h0 h1 (by simp) hT
  · obtain ⟨d, l, hd, e⟩ := dgs_ne (f := 9) (n := k.natAbs / 1024)
    have hT0 : Tx k = [] ++ Nx k.natAbs := by unfold Tx; rw [if_neg hk]
    have hT : ∃ r, Nx k.natAbs = dg d :: r := by unfold Nx; rw [e]; exact ⟨_, rfl⟩
    obtain ⟨r, hT⟩ := hT
    have hs : sget (B (Tx k)) (0 : Int) = some ((dg d).toNat : Int) := by rw [hT0, hT]; exact sget_mid [] (dg d) _
    have hpos : (Nx k.natAbs).length = r.length + 1 := by rw [hT]; rfl
    rw [tr_no (by rw [B_size, hT0, List.nil_append, Bool.or_eq_false_iff]; exact ⟨by rw [beq_eq_false_iff_ne]; omega, by rw [decide_eq_false_iff_not]; omega⟩), hs, tr_opt, Option.bind_some, tr_no (by rw [dg_nat hd]; simp; omega)]
    exact numP_back [] h0 h1 (by simp) hT0

theorem both (x : ByteArray) : (lex_Number x = some (0, false) ∧ ∃ n, ref23_Number x = some (n, false)) ∨ ∃ k, -1099511627776 ≤ k ∧ k ≤ 1099511627776 ∧ x = B (Tx k) ∧ lex_Number x = some (k, true) ∧ ref23_Number x = some (k, true) := by
  obtain ⟨r, e1, g1⟩ := Number_good x
  obtain ⟨q, e2, g2⟩ := ref_good x
  rcases g1 with rfl | ⟨_, h0, h1, hx⟩
  · obtain ⟨n, b⟩ := q
    cases b with
    | false => exact .inl ⟨e1, n, e2⟩
    | true =>
      obtain ⟨h0, h1, hx⟩ := g2 rfl
      dsimp only at h0 h1 hx
      have := Number_back h0 h1
      rw [← hx, e1] at this
      cases this
  · refine .inr ⟨r.1, h0, h1, hx, ?_, ?_⟩
    · have := Number_back h0 h1
      rw [← hx] at this; exact this
    · have := ref_back h0 h1
      rw [← hx] at this; exact this

noncomputable def kv (x : ByteArray) : Option Int := match lex_Number x with
  | some (k, true) => some k
  | _ => none
theorem kv_none {x : ByteArray} (h : kv x = none) : lex_Number x = some (0, false) ∧ ∃ n, ref23_Number x = some (n, false) := by
  rcases both x with h1 | ⟨k, _, _, _, e1, _⟩
  · exact h1
  · unfold kv at h; rw [e1] at h; cases h
theorem kv_some {x : ByteArray} {k : Int} (h : kv x = some k) : lex_Number x = some (k, true) ∧ ref23_Number x = some (k, true) := by
  rcases both x with ⟨e1, _⟩ | ⟨j, _, _, _, e1, e2⟩
  · unfold kv at h; rw [e1] at h; cases h
  · unfold kv at h; rw [e1] at h; cases h; exact ⟨e1, e2⟩

theorem lget_mid {α : Type} (pre : List α) (x : α) (l : List α) : lget (pre ++ x :: l) (pre.length : Int) = some x := by
  unfold lget
  rw [if_neg (by omega), Int.toNat_natCast, List.getElem?_append_right (Nat.le_refl _), Nat.sub_self]; rfl

end Go.Proofs.Pen

namespace Go.Proofs.Pen
open Go Go.Proofs
noncomputable def lex_Words.t (x : ByteArray) : T ((List (ByteArray))) := T.opt (strings_Cut (x, (ByteArray.mk #[35]))) fun y => T.ite (decide (ByteArray.size y.1 ≤ (4294967296 : Nat))) (T.ret (Lib.goFieldsP blankN y.1)) T.fail
noncomputable def lex_Words (x : ByteArray) : Option ((List (ByteArray))) := (lex_Words.t x).run
noncomputable def lex_Words.q : List AV → T AV := entry [.str] (outR [(.sl .str)]) fun x => .opt (lex_Words x) .ret
theorem lex_Words.ok : FnOK Tryz.prog 50 lex_Words.q :=
  entry_call (ps := [.str]) (rs := [(.sl .str)]) (F := ({ quiet := (ext Xs 72 strings_Cut.q), deep := noDeep } : Fns)) (D := D0) (S := tabS []) (t := lex_Words.t) mixed (quiet_ext Xok strings_Cut.ok) (deep_none _) Tryz.func50 (by kernel_rfl) (sok_fn trivial) (by kernel_rfl) (fun x => by kernel_rfl)
end Go.Proofs.Pen

namespace Go.Proofs.Pen
open Go Go.Proofs
noncomputable def ref23_Words.t0 (x : ByteArray × List ByteArray × ByteArray × Int × Unit) : T (Ex × ByteArray × List ByteArray × ByteArray × Int × Unit) := T.ite (decide (x.2.2.2.1 < (↑(ByteArray.size x.1) : Int))) (T.opt (sget x.1 x.2.2.2.1) fun y => T.ite (y != (35 : Int)) (T.opt (sget x.1 x.2.2.2.1) fun y => T.ite (y != (32 : Int)) (T.opt (sget x.1 x.2.2.2.1) fun y => T.ite (y != (9 : Int)) (T.ite (decide ((0 : Int) ≤ x.2.2.2.1) && decide (x.2.2.2.1 ≤ W (x.2.2.2.1 + (1 : Int))) && decide (W (x.2.2.2.1 + (1 : Int)) ≤ (↑(ByteArray.size x.1) : Int))) (T.ite (decide ((↑(ByteArray.size x.2.2.1 + (ByteArray.extract x.1 (Int.toNat x.2.2.2.1) (W (x.2.2.2.1 + (1 : Int))).toNat).size) : Int) > IntKind.i64.max)) T.fail (T.ret (Ex.normal, x.1, List.take x.2.1.length x.2.1, x.2.2.1 ++ ByteArray.extract x.1 (Int.toNat x.2.2.2.1) (W (x.2.2.2.1 + (1 : Int))).toNat, W (x.2.2.2.1 + (1 : Int)), ()))) T.fail) (T.ite (!ByteArray.toList x.2.2.1 == (ByteArray.mk #[]).toList) (T.ite (decide ((x.2.1.length + (1 : Nat)) * nat_lit 16 ≤ most)) (T.ret (Ex.normal, x.1, List.take (x.2.1.length + (1 : Nat)) (List.take x.2.1.length x.2.1 ++ [x.2.2.1]), (ByteArray.mk #[]), W (x.2.2.2.1 + (1 : Int)), ())) T.fail) (T.ret (Ex.normal, x.1, List.take x.2.1.length x.2.1, (ByteArray.mk #[]), W (x.2.2.2.1 + (1 : Int)), ())))) (T.ite (!ByteArray.toList x.2.2.1 == (ByteArray.mk #[]).toList) (T.ite (decide ((x.2.1.length + (1 : Nat)) * nat_lit 16 ≤ most)) (T.ret (Ex.normal, x.1, List.take (x.2.1.length + (1 : Nat)) (List.take x.2.1.length x.2.1 ++ [x.2.2.1]), (ByteArray.mk #[]), W (x.2.2.2.1 + (1 : Int)), ())) T.fail) (T.ret (Ex.normal, x.1, List.take x.2.1.length x.2.1, (ByteArray.mk #[]), W (x.2.2.2.1 + (1 : Int)), ())))) (T.ret (Ex.exit (0 : Nat), x.1, List.take x.2.1.length x.2.1, x.2.2.1, x.2.2.2.1, ()))) (T.ret (Ex.exit (0 : Nat), x.1, List.take x.2.1.length x.2.1, x.2.2.1, x.2.2.2.1, ()))
noncomputable def ref23_Words.l0 (x : ByteArray × List ByteArray × ByteArray × Int × Unit) : Option (Ex × ByteArray × List ByteArray × ByteArray × Int × Unit) := (iterT ref23_Words.t0 rounds x).run
noncomputable def ref23_Words.t (x : ByteArray) : T ((List (ByteArray))) := T.opt (ref23_Words.l0 (x, [], (ByteArray.mk #[]), (0 : Int), ())) fun y => T.ite (exEq y.1 (Ex.exit (0 : Nat))) (T.ite (!ByteArray.toList y.2.2.2.1 == (ByteArray.mk #[]).toList) (T.ite (decide ((y.2.2.1.length + (1 : Nat)) * nat_lit 16 ≤ most)) (T.ret (List.take (y.2.2.1.length + (1 : Nat)) (List.take y.2.2.1.length y.2.2.1 ++ [y.2.2.2.1]))) T.fail) (T.ret (List.take y.2.2.1.length y.2.2.1))) T.fail
noncomputable def ref23_Words (x : ByteArray) : Option ((List (ByteArray))) := (ref23_Words.t x).run
end Go.Proofs.Pen

namespace Go.Proofs.Pen
open Go Go.Proofs

theorem get_B (l : List UInt8) {i : Nat} (h : i < l.length) : (B l).get! i = l[i] := by
  unfold B ByteArray.get!
  simp [h]

theorem decN_low {n b0 b1 b2 b3 : Nat} (h : b0 < 128) : Lib.decodeN n b0 b1 b2 b3 = (b0, 1) := by
  unfold Lib.decodeN
  rw [if_pos h]
theorem decN_high {n b0 b1 b2 b3 : Nat} (h : 128 ≤ b0) : 128 ≤ (Lib.decodeN n b0 b1 b2 b3).1 ∧ 1 ≤ (Lib.decodeN n b0 b1 b2 b3).2 := by
  unfold Lib.decodeN
  repeat' split
  all_goals (simp only; omega)

theorem rune_low (l : List UInt8) {i : Nat} (h : i < l.length) (hb : (l[i]).toNat < 128) : Utf8.decode (B l) i = ((l[i]).toNat, 1) := by
  have e := get_B l h
  rw [Lib.decode_at, e]
  exact decN_low hb

theorem rune_high (l : List UInt8) {i : Nat} (h : i < l.length) (hb : 128 ≤ (l[i]).toNat) :
    128 ≤ (Utf8.decode (B l) i).1 ∧ 1 ≤ (Utf8.decode (B l) i).2 ∧ ∀ j, j < (Utf8.decode (B l) i).2 → ∃ h : i + j < l.length, 128 ≤ (l[i + j]).toNat := by
  have e := get_B l h
  rw [Lib.decode_at, e]
  obtain ⟨c1, c2, c3, c4⟩ := Lib.decodeN_conts ((B l).size - i) (l[i]).toNat ((B l).get! (i + 1)).toNat ((B l).get! (i + 2)).toNat ((B l).get! (i + 3)).toNat
  obtain ⟨d1, d2⟩ := decN_high (n := (B l).size - i) (b1 := ((B l).get! (i + 1)).toNat) (b2 := ((B l).get! (i + 2)).toNat) (b3 := ((B l).get! (i + 3)).toNat) hb
  refine ⟨d1, d2, fun j hj => ?_⟩
  rw [B_size] at c1 c2 c3
  have key : ∀ k, ((B l).get! (i + k)).toNat / 64 = 2 → k < l.length - i → ∃ h : i + k < l.length, 128 ≤ (l[i + k]).toNat := fun k h1 h2 => by
    have hk : i + k < l.length := by omega
    rw [get_B l hk] at h1
    exact ⟨hk, by omega⟩
  rw [B_size] at hj c4
  match j, hj with
  | 0, _ => exact ⟨h, hb⟩
  | 1, hj => obtain ⟨a, b⟩ := c1 (by omega); exact key 1 a b
  | 2, hj => obtain ⟨a, b⟩ := c2 (by omega); exact key 2 a b
  | 3, hj => obtain ⟨a, b⟩ := c3 (by omega); exact key 3 a b
  | j + 4, hj => omega
end Go.Proofs.Pen

namespace Go.Proofs.Pen
open Go Go.Proofs

def isB (b : UInt8) : Bool := b == 32 || b == 9
theorem isB_nat (b : UInt8) : blankN b.toNat = isB b := by
  unfold blankN isB
  have e1 : (b.toNat == 32) = (b == 32) := by
    rw [Bool.eq_iff_iff, beq_iff_eq, beq_iff_eq, ← UInt8.toNat_inj]; rfl
  have e2 : (b.toNat == 9) = (b == 9) := by
    rw [Bool.eq_iff_iff, beq_iff_eq, beq_iff_eq, ← UInt8.toNat_inj]; rfl
  rw [e1, e2]

def wd : List UInt8 → List UInt8 → List (List UInt8)
  | [], cur => if cur = [] then [] else [cur]
  | b :: l, cur => if isB b = true then (if cur = [] then wd l [] else cur :: wd l []) else wd l (cur ++ [b])

theorem wd_skip : ∀ (k : Nat) (l cur : List UInt8), (∀ j, j < k → ∃ h : j < l.length, 128 ≤ (l[j]).toNat) → wd l cur = wd (l.drop k) (cur ++ l.take k)
  | 0, l, cur, _ => by simp
  | k + 1, [], cur, h => by obtain ⟨h0, _⟩ := h 0 (by omega); simp at h0
  | k + 1, b :: l, cur, h => by
    obtain ⟨_, h0⟩ := h 0 (by omega)
    have hb : isB b = false := by
      rw [← isB_nat]
      have h0 : 128 ≤ b.toNat := h0
      unfold blankN
      rw [Bool.or_eq_false_iff, beq_eq_false_iff_ne, beq_eq_false_iff_ne]
      omega
    have ih := wd_skip k l (cur ++ [b]) fun j hj => by
      obtain ⟨a, c⟩ := h (j + 1) (by omega)
      exact ⟨by simpa using a, by simpa using c⟩
    simp only [wd, hb, Bool.false_eq_true, if_false, List.drop_succ_cons, List.take_succ_cons]
    rw [ih]
    simp

def pc (l : List UInt8) (a b : Nat) : List UInt8 := (l.take b).drop a
def op (l : List UInt8) (st : Option Nat) (pos : Nat) : List UInt8 := match st with
  | some a => pc l a pos
  | none => []

theorem pc_grow {l : List UInt8} {a pos k : Nat} (h : a ≤ pos) (hl : pos ≤ l.length) : pc l a pos ++ (l.drop pos).take k = pc l a (pos + k) := by
  unfold pc
  rw [List.take_add, List.drop_append_of_le_length (by rw [List.length_take]; omega)]
theorem pc_ne {l : List UInt8} {a pos : Nat} (h : a < pos) (hl : pos ≤ l.length) : pc l a pos ≠ [] := fun e => by
  have := congrArg List.length e
  unfold pc at this
  rw [List.length_drop, List.length_take] at this
  simp at this
  omega

theorem pc_self (l : List UInt8) (a : Nat) : pc l a a = [] := by
  unfold pc
  rw [List.drop_eq_nil_of_le (by rw [List.length_take]; omega)]

def extB (l : List UInt8) (x : Nat × Nat) : ByteArray := (B l).extract x.1 x.2

theorem spans_wd (l : List UInt8) : ∀ (f pos : Nat) (st : Option Nat) (acc : List (Nat × Nat)), pos ≤ l.length → l.length - pos ≤ f → (∀ a, st = some a → a < pos) →
    (Lib.closeSpans (B l) (Lib.spansFromP blankN (B l) f pos st acc)).map (extB l) = acc.map (extB l) ++ (wd (l.drop pos) (op l st pos)).map B
  | f, pos, st, acc, hp, hf, hst => by
    by_cases hlt : pos < l.length
    · obtain ⟨f, rfl⟩ : ∃ f', f = f' + 1 := ⟨f - 1, by omega⟩
      unfold Lib.spansFromP
      rw [if_pos (by rw [B_size]; exact hlt)]
      have hdrop : l.drop pos = l[pos] :: l.drop (pos + 1) := List.drop_eq_getElem_cons hlt
      by_cases hlow : (l[pos]).toNat < 128
      · rw [rune_low l hlt hlow]
        dsimp only
        rw [isB_nat, hdrop]
        by_cases hb : isB l[pos] = true
        · rw [if_pos hb]
          cases st with
          | none =>
            dsimp only
            rw [spans_wd l f (pos + 1) none acc (by omega) (by omega) (fun a e => by cases e)]
            simp only [wd, hb, if_true, op]
          | some a =>
            dsimp only
            rw [spans_wd l f (pos + 1) none (acc ++ [(a, pos)]) (by omega) (by omega) (fun a e => by cases e)]
            have hne : op l (some a) pos ≠ [] := pc_ne (hst a rfl) hp
            have : extB l (a, pos) = B (op l (some a) pos) := by unfold extB op pc; rw [B_extract]
            simp only [wd, hb, if_true, if_neg hne, List.map_append, List.map_cons, List.map_nil, List.append_assoc, List.cons_append, List.nil_append, this]
            rfl
        · rw [if_neg hb]
          cases st with
          | none =>
            dsimp only
            rw [spans_wd l f (pos + 1) (some pos) acc (by omega) (by omega) (fun a e => by cases e; omega)]
            have : op l (some pos) (pos + 1) = [l[pos]] := by
              show pc l pos (pos + 1) = _
              rw [← pc_grow (Nat.le_refl _) hp, hdrop, pc_self]
              rfl
            rw [this]
            simp only [wd, if_neg hb, op, List.nil_append]
          | some a =>
            dsimp only
            rw [spans_wd l f (pos + 1) (some a) acc (by omega) (by omega) (fun a' e => by cases e; have := hst a rfl; omega)]
            have : op l (some a) (pos + 1) = op l (some a) pos ++ [l[pos]] := by
              show pc l a (pos + 1) = pc l a pos ++ _
              rw [← pc_grow (Nat.le_of_lt (hst a rfl)) hp, hdrop]
              rfl
            rw [this]
            simp only [wd, if_neg hb]
      · obtain ⟨h1, h2, h3⟩ := rune_high l hlt (by omega)
        generalize hk : Utf8.decode (B l) pos = rk at *
        obtain ⟨r, k⟩ := rk
        dsimp only at h1 h2 h3 ⊢
        have hb : blankN r = false := by
          unfold blankN
          rw [Bool.or_eq_false_iff, beq_eq_false_iff_ne, beq_eq_false_iff_ne]
          omega
        rw [hb, if_neg (by simp)]
        have hkl : pos + k ≤ l.length := by
          obtain ⟨a, _⟩ := h3 (k - 1) (by omega)
          omega
        have hs : ∀ cur, wd (l.drop pos) cur = wd (l.drop (pos + k)) (cur ++ (l.drop pos).take k) := fun cur => by
          rw [wd_skip k (l.drop pos) cur (fun j hj => by
            obtain ⟨a, b⟩ := h3 j hj
            refine ⟨by rw [List.length_drop]; omega, ?_⟩
            rw [List.getElem_drop]; exact b), List.drop_drop]
        cases st with
        | none =>
          dsimp only
          rw [spans_wd l f (pos + k) (some pos) acc hkl (by omega) (fun a e => by cases e; omega), hs]
          have : op l (some pos) (pos + k) = op l none pos ++ (l.drop pos).take k := by
            show pc l pos (pos + k) = _
            rw [← pc_grow (Nat.le_refl _) hp]
            simp [pc, op]
          rw [this]
        | some a =>
          dsimp only
          rw [spans_wd l f (pos + k) (some a) acc hkl (by omega) (fun a' e => by cases e; have := hst a rfl; omega), hs]
          have : op l (some a) (pos + k) = op l (some a) pos ++ (l.drop pos).take k := by
            show pc l a (pos + k) = _
            rw [← pc_grow (Nat.le_of_lt (hst a rfl)) hp]
            rfl
          rw [this]
    · have hpe : pos = l.length := by omega
      subst hpe
      rw [Lib.spansFromP_end _ _ _ _ _ _ (by rw [B_size]; omega), List.drop_length]
      cases st with
      | none => simp [Lib.closeSpans, wd, op]
      | some a =>
        have hne : op l (some a) l.length ≠ [] := pc_ne (hst a rfl) (Nat.le_refl _)
        have : extB l (a, (B l).size) = B (op l (some a) l.length) := by unfold extB op pc; rw [B_extract, B_size]
        simp only [Lib.closeSpans, wd, if_neg hne, List.map_append, List.map_cons, List.map_nil, this]

theorem fields_wd (l : List UInt8) : Lib.goFieldsP blankN (B l) = (wd l []).map B := by
  unfold Lib.goFieldsP Lib.spansOfP
  have := spans_wd l (B l).size 0 none [] (by omega) (by rw [B_size]; omega) (fun a e => by cases e)
  rw [List.map_nil, List.nil_append, List.drop_zero] at this
  exact this
end Go.Proofs.Pen

namespace Go.Proofs.Pen
open Go Go.Proofs

theorem cut_firstQ {a b : List UInt8} {c : UInt8} (h : c ∉ a) (hl : a.length + b.length ≤ 200000) : strings_Cut (B (a ++ c :: b), B [c]) = some (B a, B b, true) := by
  have : internal_stringslite_Cut (B (a ++ c :: b), B [c]) = some (B a, B b, true) := by
    unfold internal_stringslite_Cut internal_stringslite_Cut.t
    dsimp only
    have hs : (a ++ c :: b).length = a.length + b.length + 1 := by simp; omega
    have h1 : ([c] : List UInt8).length = 1 := rfl
    have hW : W ((a.length : Int) + ((1 : Nat) : Int)) = ((a.length + 1 : Nat) : Int) := by rw [W_id (by omega) (by omega)]; omega
    rw [tr_yes (by rw [B_size]; rfl), byteH_one, indexB_B, index_first h, B_size, B_size, hs, h1, hW, tr_yes (by simp), tr_yes (by simp; omega), tr_yes (by simp; omega), tr_ret]
    rw [B_extract, B_extract, Int.toNat_natCast, Int.toNat_natCast, Int.toNat_natCast]
    have e1 : List.drop (Int.toNat 0) (List.take a.length (a ++ c :: b)) = a := by simp
    have e2 : List.drop (a.length + 1) (List.take (a.length + b.length + 1) (a ++ c :: b)) = b := by
      rw [List.take_of_length_le (by omega), show a ++ c :: b = (a ++ [c]) ++ b by simp, List.drop_left' (by simp)]
    rw [e1, e2]
  unfold strings_Cut strings_Cut.t
  rw [this, tr_opt, Option.bind_some, tr_ret]


theorem nil_B : ByteArray.mk #[] = B [] := rfl

def tw : List UInt8 → List UInt8
  | [] => []
  | b :: l => if b = 35 then [] else b :: tw l
theorem tw_none : ∀ {l : List UInt8}, 35 ∉ l → tw l = l
  | [], _ => rfl
  | b :: l, h => by
    simp only [List.mem_cons, not_or] at h
    rw [tw, if_neg (fun e => h.1 e.symm), tw_none h.2]
theorem tw_first : ∀ {a b : List UInt8}, 35 ∉ a → tw (a ++ 35 :: b) = a
  | [], b, _ => by simp [tw]
  | x :: a, b, h => by
    simp only [List.mem_cons, not_or] at h
    rw [List.cons_append, tw, if_neg (fun e => h.1 e.symm), tw_first h.2]

def ws (l : List UInt8) : List ByteArray := (wd (tw l) []).map B

theorem Words_eq (l : List UInt8) (h : l.length ≤ 60000) : lex_Words (B l) = some (ws l) := by
  unfold lex_Words lex_Words.t ws
  have hm : ByteArray.mk #[35] = B [35] := rfl
  rw [hm]
  rcases first_of 35 l with h1 | ⟨a, b, rfl, h1⟩
  · rw [cut_none h1, tr_opt, Option.bind_some, tr_yes (by rw [decide_eq_true_eq, B_size]; omega), tr_ret, fields_wd, tw_none h1]
  · have hl : a.length + b.length + 1 ≤ 60000 := by simp at h; omega
    rw [cut_firstQ h1 (by omega), tr_opt, Option.bind_some, tr_yes (by rw [decide_eq_true_eq, B_size]; omega), tr_ret, fields_wd, tw_first h1]

def clo (cur : List UInt8) : List ByteArray := if cur = [] then [] else [B cur]

end Go.Proofs.Pen

namespace Go.Proofs.Pen
open Go Go.Proofs
noncomputable def strings_Index.t (x : ByteArray × ByteArray) : T (Int) := T.ite (decide (ByteArray.size x.2 = (1 : Nat))) (T.ret (indexB x.1 (byteH x.2))) T.fail
noncomputable def strings_Index (x : ByteArray × ByteArray) : Option (Int) := (strings_Index.t x).run
noncomputable def strings_Index.q : List AV → T AV := entry [.str, .str] (outR [TI]) fun x => .opt (strings_Index x) .ret
theorem strings_Index.ok : FnOK Tryz.prog 95 strings_Index.q :=
  entry_call (ps := [.str, .str]) (rs := [TI]) (F := ({ quiet := Xs, deep := noDeep } : Fns)) (D := D0) (S := tabS []) (t := strings_Index.t) mixed Xok (deep_none _) Tryz.func95 (by kernel_rfl) (sok_fn trivial) (by kernel_rfl) (fun x => by kernel_rfl)
end Go.Proofs.Pen

namespace Go.Proofs.Pen
open Go Go.Proofs
def strings_genSplit.L0 : List (Nat × Lay) := [(0, .val .str), (1, .val .str), (2, .val TI), (3, .val TI), (9, .row .str), (10, .val TI)]
noncomputable def strings_genSplit.t0 (x : ByteArray × ByteArray × Int × Int × List ByteArray × Int × Unit) : T (Ex × ByteArray × ByteArray × Int × Int × List ByteArray × Int × Unit) := T.ite (decide (x.2.2.2.2.2.1 < x.2.2.2.1)) (T.opt (strings_Index (x.1, x.2.1)) fun y => T.ite (decide (y < (0 : Int))) (T.ret (Ex.exit (0 : Nat), x.1, x.2.1, x.2.2.1, x.2.2.2.1, List.take x.2.2.2.2.1.length x.2.2.2.2.1, x.2.2.2.2.2.1, ())) (T.ite (decide ((0 : Int) ≤ (0 : Int)) && decide ((0 : Int) ≤ W (y + x.2.2.1)) && decide (W (y + x.2.2.1) ≤ (↑(ByteArray.size x.1) : Int))) (T.ite (decide ((0 : Int) ≤ x.2.2.2.2.2.1) && decide (x.2.2.2.2.2.1 < (↑x.2.2.2.2.1.length : Int))) (T.opt x.2.2.2.2.1[(0 : Nat) + Int.toNat x.2.2.2.2.2.1]? fun y_1 => T.ite (decide ((0 : Int) ≤ W (y + (↑(ByteArray.size x.2.1) : Int))) && decide (W (y + (↑(ByteArray.size x.2.1) : Int)) ≤ (↑(ByteArray.size x.1) : Int)) && decide ((↑(ByteArray.size x.1) : Int) ≤ (↑(ByteArray.size x.1) : Int))) (T.ret (Ex.normal, ByteArray.extract x.1 (W (y + (↑(ByteArray.size x.2.1) : Int))).toNat (↑(ByteArray.size x.1) : Int).toNat, x.2.1, x.2.2.1, x.2.2.2.1, List.take x.2.2.2.2.1.length (x.2.2.2.2.1.set ((0 : Nat) + Int.toNat x.2.2.2.2.2.1) (ByteArray.extract x.1 (Int.toNat (0 : Int)) (W (y + x.2.2.1)).toNat)), W (x.2.2.2.2.2.1 + (1 : Int)), ())) T.fail) T.fail) T.fail)) (T.ret (Ex.exit (0 : Nat), x.1, x.2.1, x.2.2.1, x.2.2.2.1, List.take x.2.2.2.2.1.length x.2.2.2.2.1, x.2.2.2.2.2.1, ()))
noncomputable def strings_genSplit.l0 (x : ByteArray × ByteArray × Int × Int × List ByteArray × Int × Unit) : Option (Ex × ByteArray × ByteArray × Int × Int × List ByteArray × Int × Unit) := (iterT strings_genSplit.t0 rounds x).run
theorem strings_genSplit.k0 : bodies 0 (lp Tryz.f71 []) = [.loop (loopIn 0 (lp Tryz.f71 []))] ∧ WP Tryz.prog 0 (.block 0 (.loop (loopIn 0 (lp Tryz.f71 [])))) (loopS strings_genSplit.L0 66 0 [.exit 0] strings_genSplit.l0) :=
  loop_tree (L := strings_genSplit.L0) (F := ({ quiet := (ext Xs 95 strings_Index.q), deep := noDeep } : Fns)) (D := D0) (tab := []) (t := strings_genSplit.t0) mixed (quiet_ext Xok strings_Index.ok) (deep_none _) (fun _ => rfl) (by kernel_rfl) (by kernel_rfl) trivial (fun x => by kernel_rfl)
noncomputable def strings_genSplit.t (x : ByteArray × ByteArray × Int × Int) : T ((List (ByteArray))) := T.ite (x.2.2.2 == (0 : Int)) (T.ret []) (T.ite (ByteArray.toList x.2.1 == (ByteArray.mk #[]).toList) T.fail (T.ite (decide (x.2.2.2 < (0 : Int))) (T.ite (decide (ByteArray.size x.2.1 = (1 : Nat))) (T.ite (decide ((0 : Int) ≤ if W ((↑(ByteArray.size x.1) : Int) + (1 : Int)) < W (countB x.1 (byteH x.2.1) + (1 : Int)) then W ((↑(ByteArray.size x.1) : Int) + (1 : Int)) else W (countB x.1 (byteH x.2.1) + (1 : Int))) && decide ((if W ((↑(ByteArray.size x.1) : Int) + (1 : Int)) < W (countB x.1 (byteH x.2.1) + (1 : Int)) then W ((↑(ByteArray.size x.1) : Int) + (1 : Int)) else W (countB x.1 (byteH x.2.1) + (1 : Int))) ≤ if W ((↑(ByteArray.size x.1) : Int) + (1 : Int)) < W (countB x.1 (byteH x.2.1) + (1 : Int)) then W ((↑(ByteArray.size x.1) : Int) + (1 : Int)) else W (countB x.1 (byteH x.2.1) + (1 : Int))) && decide ((if W ((↑(ByteArray.size x.1) : Int) + (1 : Int)) < W (countB x.1 (byteH x.2.1) + (1 : Int)) then W ((↑(ByteArray.size x.1) : Int) + (1 : Int)) else W (countB x.1 (byteH x.2.1) + (1 : Int))) * (↑(nat_lit 16) : Int) ≤ (↑most : Int)) && decide ((if W ((↑(ByteArray.size x.1) : Int) + (1 : Int)) < W (countB x.1 (byteH x.2.1) + (1 : Int)) then W ((↑(ByteArray.size x.1) : Int) + (1 : Int)) else W (countB x.1 (byteH x.2.1) + (1 : Int))) ≤ (↑most : Int))) (T.opt (strings_genSplit.l0 (x.1, x.2.1, x.2.2.1, W ((if W ((↑(ByteArray.size x.1) : Int) + (1 : Int)) < W (countB x.1 (byteH x.2.1) + (1 : Int)) then W ((↑(ByteArray.size x.1) : Int) + (1 : Int)) else W (countB x.1 (byteH x.2.1) + (1 : Int))) - (1 : Int)), List.take (if W ((↑(ByteArray.size x.1) : Int) + (1 : Int)) < W (countB x.1 (byteH x.2.1) + (1 : Int)) then W ((↑(ByteArray.size x.1) : Int) + (1 : Int)) else W (countB x.1 (byteH x.2.1) + (1 : Int))).toNat (List.replicate (if W ((↑(ByteArray.size x.1) : Int) + (1 : Int)) < W (countB x.1 (byteH x.2.1) + (1 : Int)) then W ((↑(ByteArray.size x.1) : Int) + (1 : Int)) else W (countB x.1 (byteH x.2.1) + (1 : Int))).toNat (ByteArray.mk #[])), (0 : Int), ())) fun y => T.ite (exEq y.1 (Ex.exit (0 : Nat))) (T.ite (decide ((0 : Int) ≤ y.2.2.2.2.2.2.1) && decide (y.2.2.2.2.2.2.1 < (↑y.2.2.2.2.2.1.length : Int))) (T.opt y.2.2.2.2.2.1[(0 : Nat) + Int.toNat y.2.2.2.2.2.2.1]? fun y_1 => T.ite (decide ((0 : Int) ≤ (0 : Int)) && decide ((0 : Int) ≤ W (y.2.2.2.2.2.2.1 + (1 : Int))) && decide (W (y.2.2.2.2.2.2.1 + (1 : Int)) ≤ (↑y.2.2.2.2.2.1.length : Int))) (T.ret (List.take ((W (y.2.2.2.2.2.2.1 + (1 : Int))).toNat - Int.toNat (0 : Int)) (List.drop ((0 : Nat) + Int.toNat (0 : Int)) (y.2.2.2.2.2.1.set ((0 : Nat) + Int.toNat y.2.2.2.2.2.2.1) y.2.1)))) T.fail) T.fail) T.fail) T.fail) T.fail) (T.ite (decide ((0 : Int) ≤ if W ((↑(ByteArray.size x.1) : Int) + (1 : Int)) < x.2.2.2 then W ((↑(ByteArray.size x.1) : Int) + (1 : Int)) else x.2.2.2) && decide ((if W ((↑(ByteArray.size x.1) : Int) + (1 : Int)) < x.2.2.2 then W ((↑(ByteArray.size x.1) : Int) + (1 : Int)) else x.2.2.2) ≤ if W ((↑(ByteArray.size x.1) : Int) + (1 : Int)) < x.2.2.2 then W ((↑(ByteArray.size x.1) : Int) + (1 : Int)) else x.2.2.2) && decide ((if W ((↑(ByteArray.size x.1) : Int) + (1 : Int)) < x.2.2.2 then W ((↑(ByteArray.size x.1) : Int) + (1 : Int)) else x.2.2.2) * (↑(nat_lit 16) : Int) ≤ (↑most : Int)) && decide ((if W ((↑(ByteArray.size x.1) : Int) + (1 : Int)) < x.2.2.2 then W ((↑(ByteArray.size x.1) : Int) + (1 : Int)) else x.2.2.2) ≤ (↑most : Int))) (T.opt (strings_genSplit.l0 (x.1, x.2.1, x.2.2.1, W ((if W ((↑(ByteArray.size x.1) : Int) + (1 : Int)) < x.2.2.2 then W ((↑(ByteArray.size x.1) : Int) + (1 : Int)) else x.2.2.2) - (1 : Int)), List.take (if W ((↑(ByteArray.size x.1) : Int) + (1 : Int)) < x.2.2.2 then W ((↑(ByteArray.size x.1) : Int) + (1 : Int)) else x.2.2.2).toNat (List.replicate (if W ((↑(ByteArray.size x.1) : Int) + (1 : Int)) < x.2.2.2 then W ((↑(ByteArray.size x.1) : Int) + (1 : Int)) else x.2.2.2).toNat (ByteArray.mk #[])), (0 : Int), ())) fun y => T.ite (exEq y.1 (Ex.exit (0 : Nat))) (T.ite (decide ((0 : Int) ≤ y.2.2.2.2.2.2.1) && decide (y.2.2.2.2.2.2.1 < (↑y.2.2.2.2.2.1.length : Int))) (T.opt y.2.2.2.2.2.1[(0 : Nat) + Int.toNat y.2.2.2.2.2.2.1]? fun y_1 => T.ite (decide ((0 : Int) ≤ (0 : Int)) && decide ((0 : Int) ≤ W (y.2.2.2.2.2.2.1 + (1 : Int))) && decide (W (y.2.2.2.2.2.2.1 + (1 : Int)) ≤ (↑y.2.2.2.2.2.1.length : Int))) (T.ret (List.take ((W (y.2.2.2.2.2.2.1 + (1 : Int))).toNat - Int.toNat (0 : Int)) (List.drop ((0 : Nat) + Int.toNat (0 : Int)) (y.2.2.2.2.2.1.set ((0 : Nat) + Int.toNat y.2.2.2.2.2.2.1) y.2.1)))) T.fail) T.fail) T.fail) T.fail)))
noncomputable def strings_genSplit (x : ByteArray × ByteArray × Int × Int) : Option ((List (ByteArray))) := (strings_genSplit.t x).run
noncomputable def strings_genSplit.q : List AV → T AV := entry [.str, .str, TI, TI] (outR [(.sl .str)]) fun x => .opt (strings_genSplit x) .ret
theorem strings_genSplit.ok : FnOK Tryz.prog 71 strings_genSplit.q :=
  entry_call (ps := [.str, .str, TI, TI]) (rs := [(.sl .str)]) (F := ({ quiet := (ext Xs 95 strings_Index.q), deep := noDeep } : Fns)) (D := D0) (S := tabS [(0, loopS strings_genSplit.L0 66 0 [.exit 0] strings_genSplit.l0)]) (t := strings_genSplit.t) mixed (quiet_ext Xok strings_Index.ok) (deep_none _) Tryz.func71 (by kernel_rfl) (sok_fn ⟨strings_genSplit.k0, trivial⟩) (by kernel_rfl) (fun x => by kernel_rfl)
end Go.Proofs.Pen

namespace Go.Proofs.Pen
open Go Go.Proofs
noncomputable def strings_Split.t (x : ByteArray × ByteArray) : T ((List (ByteArray))) := T.opt (strings_genSplit (x.1, x.2, (0 : Int), (-1 : Int))) fun y => T.ret y
noncomputable def strings_Split (x : ByteArray × ByteArray) : Option ((List (ByteArray))) := (strings_Split.t x).run
noncomputable def strings_Split.q : List AV → T AV := entry [.str, .str] (outR [(.sl .str)]) fun x => .opt (strings_Split x) .ret
theorem strings_Split.ok : FnOK Tryz.prog 49 strings_Split.q :=
  entry_call (ps := [.str, .str]) (rs := [(.sl .str)]) (F := ({ quiet := (ext Xs 71 strings_genSplit.q), deep := noDeep } : Fns)) (D := D0) (S := tabS []) (t := strings_Split.t) mixed (quiet_ext Xok strings_genSplit.ok) (deep_none _) Tryz.func49 (by kernel_rfl) (sok_fn trivial) (by kernel_rfl) (fun x => by kernel_rfl)
end Go.Proofs.Pen

namespace Go.Proofs.Pen
open Go Go.Proofs
end Go.Proofs.Pen
