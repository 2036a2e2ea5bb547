/- NAuse: several texts, one behind another: Nshelf, Nbuild, Nrunec, Nplaces, Nall, Nround, Nnext, Ntext. -/
import Derived.Shelf.Strings.Builder1
import Derived.Shelf.Small.Utf8
import Derived.Shelf.Strings.BuilderF
import Derived.Shelf.Strings.BuilderK
import Derived.Shelf.Strings.BuilderRune
import Derived.Shelf.Utf8.AppendRunePlain
import Derived.Shelf.Unicode.Decode
import Derived.Shelf.Unicode.DecodeSlow
import Derived.Shelf.Unicode.DecodeAny
import Derived.Shelf.Unicode.DecodeLast
import Derived.Test.YtlphmcodajookaaDoorProg
import Derived.Lib.OthersKept
import Derived.Test.YtlphmcodajookaaDoorNAplain
import Derived.Test.YtlphmcodajookaaDoorNAlow
import Derived.Shelf.Abstract
import Derived.RangeFuncFrom
import Derived.OwnWalkIn
import Derived.TacticsInMore
import Derived.LoopNIn
import Derived.LoopIn
import Derived.Test.YtlphmcodajookaaDoorNAbase
import Derived.OrdersHeld
import Derived.OrdersIn
import Derived.RangeFuncCalls
import Derived.Test.YtlphmcodajookaaDoorNAseg
/- The library's contracts (strings.Builder.String, unicode/utf8) at this program, in plain words: printed by the kit's own lay-plain.mjs. -/
namespace Go.Proofs
open Go.Shelf
def Tryd.lays169_ren : Go.Shelf.Ren := ⟨fun | 169 => 113 | n => n, fun | 70 => 84 | 9 => 9 | 0 => 0 | 72 => 112 | 37 => 69 | 127 => 127 | 3 => 3 | 5 => 5 | n => n, fun | n => n⟩
theorem Tryd.lays169 : Go.Proofs.Lays.n169 Tryd.prog Tryd.lays169_ren := {
  mixed := by kernel_rfl
  f169 := Tryd.func113.trans (congrArg some (by kernel_rfl))
  t0 := Tryd.underlying0
  a0 := Tryd.isAgg0
  z0 := Tryd.sizeOf0
  v0 := Tryd.zeroValue0
  t3 := Tryd.underlying3
  a3 := Tryd.isAgg3
  z3 := Tryd.sizeOf3
  v3 := Tryd.zeroValue3
  t9 := Tryd.underlying9
  a9 := Tryd.isAgg9
  z9 := Tryd.sizeOf9
  v9 := Tryd.zeroValue9
  t37 := Tryd.underlying69
  a37 := Tryd.isAgg69
  z37 := Tryd.sizeOf69
  v37 := Tryd.zeroValue69
  t70 := Tryd.underlying84
  a70 := Tryd.isAgg84
  z70 := Tryd.sizeOf84
  v70 := Tryd.zeroValue84
  t72 := Tryd.underlying112
  a72 := Tryd.isAgg112
  z72 := Tryd.sizeOf112
  v72 := Tryd.zeroValue112
  t127 := Tryd.underlying127
  a127 := Tryd.isAgg127
  z127 := Tryd.sizeOf127
  v127 := Tryd.zeroValue127 }
theorem Tryd.Builder_Extra_169 : Builder.Extra Tryd.prog Tryd.lays169_ren := {
  sizeBuilder := by kernel_rfl
  liesBuilder := by kernel_rfl
  t5 := Tryd.underlying5
  a5 := Tryd.isAgg5
  z5 := Tryd.sizeOf5
  v5 := Tryd.zeroValue5
  infoByte := by kernel_rfl
  cellsByte := by kernel_rfl
  sizeByte := by kernel_rfl
  neB5 := by decide }
open Go.RowKit in
theorem Tryd.Builder_String (B b : Nat) (l : List UInt8) (w : World) (h : Lib.IsBuilder 112 5 B b (Lib.byteCells l) w) (h0 : l ≠ []) :
    Calls Tryd.prog 113 #[.pointer (some ⟨b, 0, none⟩)] w fun e w' => e = .returned (.string ⟨l.toArray⟩) ∧ Below B w w' := Any.Builder_String Tryd.lays169 Tryd.Builder_Extra_169 B b l w h h0
open Go.RowKit in
theorem Tryd.Builder_String_empty (B b : Nat) (w : World) (h : Lib.IsBuilder 112 5 B b [] w) (hBw : B ≤ w.heap.size) :
    Calls Tryd.prog 113 #[.pointer (some ⟨b, 0, none⟩)] w fun e w' => e = .returned (.string ⟨#[]⟩) ∧ Below B w w' := Any.Builder_String_empty Tryd.lays169 Tryd.Builder_Extra_169 B b w h hBw
open Go.RowKit in
theorem Tryd.Builder_String_any (B b : Nat) (l : List UInt8) (w : World) (h : Lib.IsBuilder 112 5 B b (Lib.byteCells l) w) (hBw : B ≤ w.heap.size) :
    Calls Tryd.prog 113 #[.pointer (some ⟨b, 0, none⟩)] w fun e w' => e = .returned (.string ⟨l.toArray⟩) ∧ Below B w w' := Any.Builder_String_any Tryd.lays169 Tryd.Builder_Extra_169 B b l w h hBw
def Tryd.lays120_ren : Go.Shelf.Ren := ⟨fun | 120 => 123 | n => n, fun | 5 => 5 | 4 => 4 | n => n, fun | n => n⟩
theorem Tryd.lays120 : Go.Proofs.Lays.n120 Tryd.prog Tryd.lays120_ren := {
  mixed := by kernel_rfl
  f120 := Tryd.func123.trans (congrArg some (by kernel_rfl))
  t4 := Tryd.underlying4
  a4 := Tryd.isAgg4
  z4 := Tryd.sizeOf4
  v4 := Tryd.zeroValue4
  t5 := Tryd.underlying5
  a5 := Tryd.isAgg5
  z5 := Tryd.sizeOf5
  v5 := Tryd.zeroValue5 }
theorem Tryd.utf8_RuneStart (b : Int) (w : World) (h0 : 0 ≤ b) (h1 : b < 256) :
    Calls Tryd.prog 123 #[.int .u8 b] w fun e w' => e = .returned (.bool (Lib.runeStart b)) ∧ w' = w := Any.utf8_RuneStart Tryd.lays120 b w h0 h1
open Go.RowKit in
theorem Tryd.Builder_String_f (B b : Nat) (l : List UInt8) (w : World) (h : Lib.IsBuilderF 112 5 B b (Lib.byteCells l) w) (h0 : l ≠ []) :
    Calls Tryd.prog 113 #[.pointer (some ⟨b, 0, none⟩)] w fun e w' => e = .returned (.string ⟨l.toArray⟩) ∧ (Lib.IsBuilderF 112 5 B b (Lib.byteCells l) w' ∧ Below B w w') := Any.Builder_String_f Tryd.lays169 Tryd.Builder_Extra_169 B b l w h h0
open Go.RowKit in
theorem Tryd.Builder_String_empty_f (B b : Nat) (w : World) (h : Lib.IsBuilderF 112 5 B b [] w) (hBw : B ≤ w.heap.size) :
    Calls Tryd.prog 113 #[.pointer (some ⟨b, 0, none⟩)] w fun e w' => e = .returned (.string ⟨#[]⟩) ∧ (Lib.IsBuilderF 112 5 B b [] w' ∧ Below B w w') := Any.Builder_String_empty_f Tryd.lays169 Tryd.Builder_Extra_169 B b w h hBw
open Go.RowKit in
theorem Tryd.Builder_String_any_f (B b : Nat) (l : List UInt8) (w : World) (h : Lib.IsBuilderF 112 5 B b (Lib.byteCells l) w) (hBw : B ≤ w.heap.size) :
    Calls Tryd.prog 113 #[.pointer (some ⟨b, 0, none⟩)] w fun e w' => e = .returned (.string ⟨l.toArray⟩) ∧ (Lib.IsBuilderF 112 5 B b (Lib.byteCells l) w' ∧ Below B w w') := Any.Builder_String_any_f Tryd.lays169 Tryd.Builder_Extra_169 B b l w h hBw
open Go.RowKit in
theorem Tryd.Builder_String_k (B b : Nat) (l : List UInt8) (w : World) (h : Lib.IsBuilderF 112 5 B b (Lib.byteCells l) w) (h0 : l ≠ []) :
    Calls Tryd.prog 113 #[.pointer (some ⟨b, 0, none⟩)] w fun e w' => e = .returned (.string ⟨l.toArray⟩) ∧ (Lib.IsBuilderF 112 5 B b (Lib.byteCells l) w' ∧ Below B w w' ∧ Lib.OthersKept 5 (some b) w w') := Any.Builder_String_k Tryd.lays169 Tryd.Builder_Extra_169 B b l w h h0
open Go.RowKit in
theorem Tryd.Builder_String_empty_k (B b : Nat) (w : World) (h : Lib.IsBuilderF 112 5 B b [] w) (hBw : B ≤ w.heap.size) :
    Calls Tryd.prog 113 #[.pointer (some ⟨b, 0, none⟩)] w fun e w' => e = .returned (.string ⟨#[]⟩) ∧ (Lib.IsBuilderF 112 5 B b [] w' ∧ Below B w w' ∧ Lib.OthersKept 5 (some b) w w') := Any.Builder_String_empty_k Tryd.lays169 Tryd.Builder_Extra_169 B b w h hBw
open Go.RowKit in
theorem Tryd.Builder_String_any_k (B b : Nat) (l : List UInt8) (w : World) (h : Lib.IsBuilderF 112 5 B b (Lib.byteCells l) w) (hBw : B ≤ w.heap.size) :
    Calls Tryd.prog 113 #[.pointer (some ⟨b, 0, none⟩)] w fun e w' => e = .returned (.string ⟨l.toArray⟩) ∧ (Lib.IsBuilderF 112 5 B b (Lib.byteCells l) w' ∧ Below B w w' ∧ Lib.OthersKept 5 (some b) w w') := Any.Builder_String_any_k Tryd.lays169 Tryd.Builder_Extra_169 B b l w h hBw
def Tryd.lays278_ren : Go.Shelf.Ren := ⟨fun | 278 => 136 | n => n, fun | 37 => 69 | 21 => 21 | 51 => 141 | 4 => 4 | 46 => 134 | 5 => 5 | n => n, fun | n => n⟩
theorem Tryd.lays278 : Go.Proofs.Lays.n278 Tryd.prog Tryd.lays278_ren := {
  mixed := by kernel_rfl
  f278 := Tryd.func136.trans (congrArg some (by kernel_rfl))
  t4 := Tryd.underlying4
  a4 := Tryd.isAgg4
  z4 := Tryd.sizeOf4
  v4 := Tryd.zeroValue4
  t5 := Tryd.underlying5
  a5 := Tryd.isAgg5
  z5 := Tryd.sizeOf5
  v5 := Tryd.zeroValue5
  t21 := Tryd.underlying21
  a21 := Tryd.isAgg21
  z21 := Tryd.sizeOf21
  v21 := Tryd.zeroValue21
  t37 := Tryd.underlying69
  a37 := Tryd.isAgg69
  z37 := Tryd.sizeOf69
  v37 := Tryd.zeroValue69
  t46 := Tryd.underlying134
  a46 := Tryd.isAgg134
  z46 := Tryd.sizeOf134
  v46 := Tryd.zeroValue134
  t51 := Tryd.underlying141
  a51 := Tryd.isAgg141
  z51 := Tryd.sizeOf141
  v51 := Tryd.zeroValue141 }
open Go.RowKit in
theorem Tryd.utf8_appendRuneNonASCII_plain (B : Nat) (v : Value) (n : Nat) (xs : List Value) (r : Int) (hr0 : -2147483648 ≤ r) (hr1 : r ≤ 2147483647) (hna : r < 0 ∨ 128 ≤ r) (w : World) (hown : w.ownsRow B 5 1 v n xs) (hlen : n + 4 ≤ 140737488355328) (hBw : B ≤ w.heap.size) :
    Calls Tryd.prog 136 #[v, .int .i32 r] w fun e w' => ∃ v', e = .returned v' ∧ w'.ownsRow B 5 1 v' (n + (Lib.runeCells r).length) (xs ++ Lib.runeCells r) ∧ ∃ o, (w.alloc o).grownBy w' v.ownBlock := Any.utf8_appendRuneNonASCII_plain Tryd.lays278 (by kernel_rfl) B v n xs r hr0 hr1 hna w hown hlen hBw
def Tryd.lays242_ren : Go.Shelf.Ren := ⟨fun | 242 => 127 | 278 => 136 | n => n, fun | 37 => 69 | 21 => 21 | 51 => 141 | 4 => 4 | 5 => 5 | 46 => 134 | n => n, fun | n => n⟩
theorem Tryd.lays242 : Go.Proofs.Lays.n242 Tryd.prog Tryd.lays242_ren := {
  mixed := by kernel_rfl
  f242 := Tryd.func127.trans (congrArg some (by kernel_rfl))
  f278 := Tryd.func136.trans (congrArg some (by kernel_rfl))
  t4 := Tryd.underlying4
  a4 := Tryd.isAgg4
  z4 := Tryd.sizeOf4
  v4 := Tryd.zeroValue4
  t5 := Tryd.underlying5
  a5 := Tryd.isAgg5
  z5 := Tryd.sizeOf5
  v5 := Tryd.zeroValue5
  t21 := Tryd.underlying21
  a21 := Tryd.isAgg21
  z21 := Tryd.sizeOf21
  v21 := Tryd.zeroValue21
  t37 := Tryd.underlying69
  a37 := Tryd.isAgg69
  z37 := Tryd.sizeOf69
  v37 := Tryd.zeroValue69
  t46 := Tryd.underlying134
  a46 := Tryd.isAgg134
  z46 := Tryd.sizeOf134
  v46 := Tryd.zeroValue134
  t51 := Tryd.underlying141
  a51 := Tryd.isAgg141
  z51 := Tryd.sizeOf141
  v51 := Tryd.zeroValue141 }
open Go.RowKit in
theorem Tryd.utf8_AppendRune_plain (B : Nat) (v : Value) (n : Nat) (xs : List Value) (r : Int) (hr0 : -2147483648 ≤ r) (hr1 : r ≤ 2147483647) (w : World) (hown : w.ownsRow B 5 1 v n xs) (hlen : n + 4 ≤ 140737488355328) (hBw : B ≤ w.heap.size) :
    Calls Tryd.prog 127 #[v, .int .i32 r] w fun e w' => ∃ v', e = .returned v' ∧ w'.ownsRow B 5 1 v' (n + (Lib.runeCells r).length) (xs ++ Lib.runeCells r) ∧ ∃ o, (w.alloc o).grownBy w' v.ownBlock := Any.utf8_AppendRune_plain Tryd.lays242 (by kernel_rfl) B v n xs r hr0 hr1 w hown hlen hBw
def Tryd.lays197_ren : Go.Shelf.Ren := ⟨fun | 197 => 81 | 260 => 119 | n => n, fun | 9 => 9 | 21 => 21 | 3 => 3 | 4 => 4 | 5 => 5 | 105 => 39 | 119 => 133 | 0 => 0 | 46 => 134 | 139 => 137 | 138 => 136 | n => n, fun | 3 => 0 | 4 => 1 | n => n⟩
theorem Tryd.lays197 : Go.Proofs.Lays.n197 Tryd.prog Tryd.lays197_ren := {
  mixed := by kernel_rfl
  f197 := Tryd.func81.trans (congrArg some (by kernel_rfl))
  f260 := Tryd.func119.trans (congrArg some (by kernel_rfl))
  t0 := Tryd.underlying0
  a0 := Tryd.isAgg0
  z0 := Tryd.sizeOf0
  v0 := Tryd.zeroValue0
  t3 := Tryd.underlying3
  a3 := Tryd.isAgg3
  z3 := Tryd.sizeOf3
  v3 := Tryd.zeroValue3
  t4 := Tryd.underlying4
  a4 := Tryd.isAgg4
  z4 := Tryd.sizeOf4
  v4 := Tryd.zeroValue4
  t5 := Tryd.underlying5
  a5 := Tryd.isAgg5
  z5 := Tryd.sizeOf5
  v5 := Tryd.zeroValue5
  t9 := Tryd.underlying9
  a9 := Tryd.isAgg9
  z9 := Tryd.sizeOf9
  v9 := Tryd.zeroValue9
  t21 := Tryd.underlying21
  a21 := Tryd.isAgg21
  z21 := Tryd.sizeOf21
  v21 := Tryd.zeroValue21
  t46 := Tryd.underlying134
  a46 := Tryd.isAgg134
  z46 := Tryd.sizeOf134
  v46 := Tryd.zeroValue134
  t105 := Tryd.underlying39
  a105 := Tryd.isAgg39
  z105 := Tryd.sizeOf39
  v105 := Tryd.zeroValue39
  t119 := Tryd.underlying133
  a119 := Tryd.isAgg133
  z119 := Tryd.sizeOf133
  t138 := Tryd.underlying136
  a138 := Tryd.isAgg136
  z138 := Tryd.sizeOf136
  v138 := Tryd.zeroValue136
  t139 := Tryd.underlying137
  a139 := Tryd.isAgg137
  z139 := Tryd.sizeOf137
  v139 := Tryd.zeroValue137
  g3 := by kernel_rfl
  g4 := by kernel_rfl }
open Go.RowKit Go.Lib in
theorem Tryd.utf8_DecodeRuneInString_ascii (s : ByteArray) (x : UInt8) (w : World) (h0 : s.data.toList[0]? = some x) (hx : x.toNat < 128) :
    Calls Tryd.prog 81 #[.string s] w fun e w' => e = .returned (.tuple #[.int .i32 x.toNat, .int .i64 1]) ∧ w' = w := Any.utf8_DecodeRuneInString_ascii Tryd.lays197 s x w h0 hx
def Tryd.lays260_ren : Go.Shelf.Ren := ⟨fun | 260 => 119 | n => n, fun | 9 => 9 | 21 => 21 | 3 => 3 | 4 => 4 | 5 => 5 | 119 => 133 | 0 => 0 | 46 => 134 | 139 => 137 | 138 => 136 | n => n, fun | 3 => 0 | 4 => 1 | n => n⟩
theorem Tryd.lays260 : Go.Proofs.Lays.n260 Tryd.prog Tryd.lays260_ren := {
  mixed := by kernel_rfl
  f260 := Tryd.func119.trans (congrArg some (by kernel_rfl))
  t0 := Tryd.underlying0
  a0 := Tryd.isAgg0
  z0 := Tryd.sizeOf0
  v0 := Tryd.zeroValue0
  t3 := Tryd.underlying3
  a3 := Tryd.isAgg3
  z3 := Tryd.sizeOf3
  v3 := Tryd.zeroValue3
  t4 := Tryd.underlying4
  a4 := Tryd.isAgg4
  z4 := Tryd.sizeOf4
  v4 := Tryd.zeroValue4
  t5 := Tryd.underlying5
  a5 := Tryd.isAgg5
  z5 := Tryd.sizeOf5
  v5 := Tryd.zeroValue5
  t9 := Tryd.underlying9
  a9 := Tryd.isAgg9
  z9 := Tryd.sizeOf9
  v9 := Tryd.zeroValue9
  t21 := Tryd.underlying21
  a21 := Tryd.isAgg21
  z21 := Tryd.sizeOf21
  v21 := Tryd.zeroValue21
  t46 := Tryd.underlying134
  a46 := Tryd.isAgg134
  z46 := Tryd.sizeOf134
  v46 := Tryd.zeroValue134
  t119 := Tryd.underlying133
  a119 := Tryd.isAgg133
  z119 := Tryd.sizeOf133
  t138 := Tryd.underlying136
  a138 := Tryd.isAgg136
  z138 := Tryd.sizeOf136
  v138 := Tryd.zeroValue136
  t139 := Tryd.underlying137
  a139 := Tryd.isAgg137
  z139 := Tryd.sizeOf137
  v139 := Tryd.zeroValue137
  g3 := by kernel_rfl
  g4 := by kernel_rfl }
open Go.RowKit Go.Lib in
theorem Tryd.utf8_decodeRuneInStringSlow (s : ByteArray) (w : World) (hT : Lib.Utf8Tabs 0 1 w) :
    Calls Tryd.prog 119 #[.string s] w fun e w' => e = .returned (.tuple #[.int .i32 (Lib.decodeGo s).1, .int .i64 (Lib.decodeGo s).2]) ∧ Below w.heap.size w w' := Any.utf8_decodeRuneInStringSlow Tryd.lays260 s w hT
open Go.RowKit Go.Lib in
theorem Tryd.utf8_DecodeRuneInString (s : ByteArray) (w : World) (hT : Lib.Utf8Tabs 0 1 w) :
    Calls Tryd.prog 81 #[.string s] w fun e w' => e = .returned (.tuple #[.int .i32 (Lib.decodeGo s).1, .int .i64 (Lib.decodeGo s).2]) ∧ Below w.heap.size w w' := Any.utf8_DecodeRuneInString Tryd.lays197 s w hT
def Tryd.lays271_ren : Go.Shelf.Ren := ⟨fun | 271 => 94 | 120 => 123 | 197 => 81 | 260 => 119 | n => n, fun | 9 => 9 | 21 => 21 | 3 => 3 | 4 => 4 | 5 => 5 | 105 => 39 | 119 => 133 | 0 => 0 | 46 => 134 | 139 => 137 | 138 => 136 | n => n, fun | 3 => 0 | 4 => 1 | n => n⟩
theorem Tryd.lays271 : Go.Proofs.Lays.n271 Tryd.prog Tryd.lays271_ren := {
  mixed := by kernel_rfl
  f120 := Tryd.func123.trans (congrArg some (by kernel_rfl))
  f197 := Tryd.func81.trans (congrArg some (by kernel_rfl))
  f260 := Tryd.func119.trans (congrArg some (by kernel_rfl))
  f271 := Tryd.func94.trans (congrArg some (by kernel_rfl))
  t0 := Tryd.underlying0
  a0 := Tryd.isAgg0
  z0 := Tryd.sizeOf0
  v0 := Tryd.zeroValue0
  t3 := Tryd.underlying3
  a3 := Tryd.isAgg3
  z3 := Tryd.sizeOf3
  v3 := Tryd.zeroValue3
  t4 := Tryd.underlying4
  a4 := Tryd.isAgg4
  z4 := Tryd.sizeOf4
  v4 := Tryd.zeroValue4
  t5 := Tryd.underlying5
  a5 := Tryd.isAgg5
  z5 := Tryd.sizeOf5
  v5 := Tryd.zeroValue5
  t9 := Tryd.underlying9
  a9 := Tryd.isAgg9
  z9 := Tryd.sizeOf9
  v9 := Tryd.zeroValue9
  t21 := Tryd.underlying21
  a21 := Tryd.isAgg21
  z21 := Tryd.sizeOf21
  v21 := Tryd.zeroValue21
  t46 := Tryd.underlying134
  a46 := Tryd.isAgg134
  z46 := Tryd.sizeOf134
  v46 := Tryd.zeroValue134
  t105 := Tryd.underlying39
  a105 := Tryd.isAgg39
  z105 := Tryd.sizeOf39
  v105 := Tryd.zeroValue39
  t119 := Tryd.underlying133
  a119 := Tryd.isAgg133
  z119 := Tryd.sizeOf133
  t138 := Tryd.underlying136
  a138 := Tryd.isAgg136
  z138 := Tryd.sizeOf136
  v138 := Tryd.zeroValue136
  t139 := Tryd.underlying137
  a139 := Tryd.isAgg137
  z139 := Tryd.sizeOf137
  v139 := Tryd.zeroValue137
  g3 := by kernel_rfl
  g4 := by kernel_rfl }
open Go.RowKit Go.Lib in
theorem Tryd.utf8_DecodeLastRuneInString (s : ByteArray) (w : World) (hs : s.size ≤ 9223372036854775807) (hT : Lib.Utf8Tabs 0 1 w) :
    Calls Tryd.prog 94 #[.string s] w fun e w' => e = .returned (.tuple #[.int .i32 (Lib.decodeLastL s.data.toList).1, .int .i64 (Lib.decodeLastL s.data.toList).2]) ∧ Below w.heap.size w w' := Any.utf8_DecodeLastRuneInString Tryd.lays271 s w hs hT
end Go.Proofs
/- strings.Builder at this program: copyCheck, WriteString, WriteByte, WriteRune. (After the shelf's own proofs, turned to this program's bodies.) -/
namespace Go.Proofs
open Go.Shelf
def Tryd.build_ren : Go.Shelf.Ren := ⟨fun | 242 => 127 | 278 => 136 | n => n, fun | 72 => 112 | 70 => 84 | 37 => 69 | 21 => 21 | 51 => 141 | 4 => 4 | 5 => 5 | 46 => 134 | n => n, fun | n => n⟩
theorem Tryd.build_lays : Go.Proofs.Lays.n242 Tryd.prog Tryd.build_ren := {
  mixed := by kernel_rfl
  f242 := Tryd.func127.trans (congrArg some (by kernel_rfl))
  f278 := Tryd.func136.trans (congrArg some (by kernel_rfl))
  t4 := Tryd.underlying4
  a4 := Tryd.isAgg4
  z4 := Tryd.sizeOf4
  v4 := Tryd.zeroValue4
  t5 := Tryd.underlying5
  a5 := Tryd.isAgg5
  z5 := Tryd.sizeOf5
  v5 := Tryd.zeroValue5
  t21 := Tryd.underlying21
  a21 := Tryd.isAgg21
  z21 := Tryd.sizeOf21
  v21 := Tryd.zeroValue21
  t37 := Tryd.underlying69
  a37 := Tryd.isAgg69
  z37 := Tryd.sizeOf69
  v37 := Tryd.zeroValue69
  t46 := Tryd.underlying134
  a46 := Tryd.isAgg134
  z46 := Tryd.sizeOf134
  v46 := Tryd.zeroValue134
  t51 := Tryd.underlying141
  a51 := Tryd.isAgg141
  z51 := Tryd.sizeOf141
  v51 := Tryd.zeroValue141 }
theorem Tryd.build_extra : Builder.Extra Tryd.prog Tryd.build_ren := {
  sizeBuilder := by kernel_rfl
  liesBuilder := by kernel_rfl
  t5 := Tryd.underlying5
  a5 := Tryd.isAgg5
  z5 := Tryd.sizeOf5
  v5 := Tryd.zeroValue5
  infoByte := by kernel_rfl
  cellsByte := by kernel_rfl
  sizeByte := by kernel_rfl
  neB5 := by decide }
end Go.Proofs
namespace Go.Proofs.YtlphmcodajookaaDoor
open Go.RowKit Go.Shelf
theorem sizeBuilder : (Tryd.prog.info? 112).map (·.size) = some 2 := by kernel_rfl
theorem liesBuilder : liesAt Tryd.prog Tryd.prog.depth 112 (2 / Tryd.prog.cellsOf 112) 0 112 1 = true := by kernel_rfl
theorem infoByte : (Tryd.prog.info? 5).map (fun i => (i.zero, i.size, i.bytes)) = some (some (.int .u8 0), 1, 1) := by kernel_rfl
set_option maxRecDepth 100000 in
set_option maxHeartbeats 2000000 in
theorem check_fresh (b : Nat) (w : World) (h0 : w.cell? ⟨b, 0, none⟩ = some (.pointer none)) (hsh : w.shape? b = some (112, 2)) (hfz : w.frozen? ⟨b, 0, none⟩ = false) :
    Calls Tryd.prog 126 #[.pointer (some ⟨b, 0, none⟩)] w fun e w' => e = .returned (.tuple #[]) ∧ w' = w.setCell ⟨b, 0, none⟩ (.pointer (some ⟨b, 0, none⟩)) := by
  obtain ⟨j, hj, hjs⟩ := Option.map_eq_some_iff.1 sizeBuilder
  go_enter Tryd.func126, Tryd.ntmps126
  go_wp2
  rw [Lib.run_to_unsafe w ⟨b, 0, none⟩ Tryd.underlying84 Tryd.underlying139 hj (by rw [hjs]; decide) hsh (Nat.zero_lt_succ 1)]
  simp only [Result.andThen]
  rw [Oper.upon_value]
  go_wp2
  rw [run_callFunc_extern Tryd.func135 (by kernel_rfl) (by kernel_rfl) (by kernel_rfl) (e := Extern.AbiNoEscape.same) (by kernel_rfl)]
  rw [Lib.run_noEscape]
  simp only [Result.andThen]
  rw [Oper.upon_value]
  go_wp2
  rw [Lib.run_from_unsafe w ⟨b, 0, none⟩ Tryd.underlying139 Tryd.underlying84 hj hsh liesBuilder]
  simp only [Result.andThen]
  rw [Oper.upon_value]
  go_wp2
  go_end0
  exact ⟨rfl, rfl⟩
set_option maxRecDepth 100000 in
set_option maxHeartbeats 2000000 in
theorem check_used (b : Nat) (w : World) (h0 : w.cell? ⟨b, 0, none⟩ = some (.pointer (some ⟨b, 0, none⟩))) : Calls Tryd.prog 126 #[.pointer (some ⟨b, 0, none⟩)] w fun e w' => e = .returned (.tuple #[]) ∧ w' = w := by
  obtain ⟨j, hj, _⟩ := Option.map_eq_some_iff.1 sizeBuilder
  go_enter Tryd.func126, Tryd.ntmps126
  go_wp2
  rw [Lib.run_neq_ptr_same w _ Tryd.underlying84 hj]
  go_wp2
  go_end0
  exact ⟨rfl, rfl⟩
theorem check_any (B b : Nat) (bs : List Value) (w : World) (h : Lib.IsBuilderF 112 5 B b bs w) :
    Calls Tryd.prog 126 #[.pointer (some ⟨b, 0, none⟩)] w fun e w' => e = .returned (.tuple #[]) ∧ (Lib.BuilderAtF 112 5 B b (.pointer (some ⟨b, 0, none⟩)) bs w' ∧ Below B w w' ∧ Lib.OthersKept 5 (some b) w w') := by
  rcases h with h | h
  · refine (check_fresh b w h.cell0 h.shape h.frozen0).mono ?_
    rintro e w' ⟨rfl, rfl⟩
    exact ⟨rfl, h.used _, (Below.refl B w).setCell (p := ⟨b, 0, none⟩) h.1 _, (Lib.OthersKept.refl _ _ w).setCell ⟨b, 0, none⟩ rfl _⟩
  · refine (check_used b w h.cell0).mono ?_
    rintro e w' ⟨rfl, rfl⟩
    exact ⟨rfl, h, Below.refl B _, Lib.OthersKept.refl _ _ _⟩
set_option maxHeartbeats 2000000 in
set_option maxRecDepth 100000 in
theorem write_any (B b : Nat) (bs : List Value) (s : ByteArray) (w : World) (h : Lib.IsBuilderF 112 5 B b bs w) (hlen : bs.length + s.size ≤ 140737488355328) (hBw : B ≤ w.heap.size) :
    Calls Tryd.prog 103 #[.pointer (some ⟨b, 0, none⟩), .string s] w fun e w' => e = .returned (.tuple #[.int .i64 s.size, .nilIface]) ∧ (Lib.BuilderAtF 112 5 B b (.pointer (some ⟨b, 0, none⟩)) (bs ++ Lib.strCells s) w' ∧ Below B w w' ∧ Lib.OthersKept 5 (some b) w w') := by
  obtain ⟨i0, hi, hz0, hz1, hz2⟩ := info_parts infoByte
  go_enter Tryd.func103, Tryd.ntmps103
  go_wp2_with (go_at_call 126; refine (check_any B b bs _ h).mono ?_)
  rintro e w1 ⟨rfl, h1, hb1, hk1⟩
  obtain ⟨hB, v, hbk, hown, hne⟩ := h1
  have c0 : w1.cell? ⟨b, 0, none⟩ = some (.pointer (some ⟨b, 0, none⟩)) := by rw [Lib.cell_of_heap hbk]; rfl
  have c1 : w1.cell? ⟨b, 1, none⟩ = some v := by rw [Lib.cell_of_heap hbk]; rfl
  go_wp2_with (at_builtin; refine Lib.wpList_append_own_stringF _ rfl _ _ 69 9 rfl B 5 i0 Tryd.underlying69 Tryd.underlying9 hi hz0 hz1 hz2 _ _ _ rfl hown s rfl ?c3 ?c4 ?c5 ?_)
  case c3 => unfold maxLen; omega
  case c4 => omega
  case c5 => have := hb1.size; omega
  intro v' w2 hown' hgrow _
  have hlt : b < w1.heap.size := by
    rcases Nat.lt_or_ge b w1.heap.size with h' | h'
    · exact h'
    · simp [Array.getElem?_eq_none h'] at hbk
  have hb2 : w2.heap[b]? = some (.cells #[.pointer (some ⟨b, 0, none⟩), v] 112 (0, 0)) := by
    rw [hgrow.block b hlt (fun e => hne e.symm)]
    exact hbk
  have d0 : w2.cell? ⟨b, 0, none⟩ = some (.pointer (some ⟨b, 0, none⟩)) := by rw [Lib.cell_of_heap hb2]; rfl
  have d1 : w2.cell? ⟨b, 1, none⟩ = some v := by rw [Lib.cell_of_heap hb2]; rfl
  have f1 : w2.frozen? ⟨b, 1, none⟩ = false := Lib.frozen_of_heap hb2 1
  obtain ⟨ao, n', cap, rfl⟩ : ∃ ao n' cap, v' = .slice ao n' cap := by
    rcases hown'.2 with ⟨hv, _⟩ | ⟨g, cap, cur, fz, hv, _⟩
    · exact ⟨_, _, _, hv⟩
    · exact ⟨_, _, _, hv⟩
  go_wp2
  go_ret2
  refine ⟨rfl, ?_, ?_, (hk1.grown hgrow (Lib.ownsRowF_kind hown)).setCell ⟨b, 1, none⟩ rfl _⟩
  · exact Lib.BuilderAtF.put (T := 112) (e := 5) hB hb2 (bs' := bs ++ Lib.strCells s) (by simpa [Lib.strCells_length] using hown') (by decide)
  · exact (hb1.grown hgrow (by have := hb1.size; omega) (fun k hk => (hown.lt k hk).1)).setCell (p := ⟨b, 1, none⟩) hB _
set_option maxHeartbeats 2000000 in
set_option maxRecDepth 100000 in
theorem byte_any (B b : Nat) (bs : List Value) (c : Int) (w : World) (h : Lib.IsBuilderF 112 5 B b bs w) (hlen : bs.length + 1 ≤ 140737488355328) (hBw : B ≤ w.heap.size) :
    Calls Tryd.prog 112 #[.pointer (some ⟨b, 0, none⟩), .int .u8 c] w fun e w' => e = .returned .nilIface ∧ (Lib.BuilderAtF 112 5 B b (.pointer (some ⟨b, 0, none⟩)) (bs ++ [.int .u8 c]) w' ∧ Below B w w' ∧ Lib.OthersKept 5 (some b) w w') := by
  obtain ⟨i0, hi, hz0, hz1, hz2⟩ := info_parts infoByte
  go_enter Tryd.func112, Tryd.ntmps112
  go_wp2_with (go_at_call 126; refine (check_any B b bs _ h).mono ?_)
  rintro e w1 ⟨rfl, h1, hb1, hk1⟩
  obtain ⟨hB, v, hbk, hown, hne⟩ := h1
  have c0 : w1.cell? ⟨b, 0, none⟩ = some (.pointer (some ⟨b, 0, none⟩)) := by rw [Lib.cell_of_heap hbk]; rfl
  have c1 : w1.cell? ⟨b, 1, none⟩ = some v := by rw [Lib.cell_of_heap hbk]; rfl
  go_wp2_with (at_builtin; refine wpList_append_ownF _ rfl _ _ 69 rfl B 5 i0 (.int .u8 0) 1 1 Tryd.underlying69 hi hz0 hz1 hz2 rfl (by decide) _ _ _ rfl (hown.alloc _) ⟨w1.heap.size, 0, none⟩ 1 1 [.int .u8 c] rfl rfl ?c1 ?c2 ?c3 ?c4 ?c5 ?_)
  case c1 =>
    intro j u hj
    match j, hj with
    | 0, hj => simp at hj; subst hj; simp [Addr.add]
  case c2 => intro u hu; simp at hu; subst hu; rfl
  case c3 => unfold maxLen; omega
  case c4 => omega
  case c5 => have := hb1.size; simp; omega
  intro v' w2 hown' hgrow _
  have hlt : b < w1.heap.size := by
    rcases Nat.lt_or_ge b w1.heap.size with h' | h'
    · exact h'
    · simp [Array.getElem?_eq_none h'] at hbk
  have hb2 : w2.heap[b]? = some (.cells #[.pointer (some ⟨b, 0, none⟩), v] 112 (0, 0)) := by
    rw [hgrow.block b (by simp; omega) (fun e => hne e.symm), Lib.alloc_old w1 _ b hlt]
    exact hbk
  have d0 : w2.cell? ⟨b, 0, none⟩ = some (.pointer (some ⟨b, 0, none⟩)) := by rw [Lib.cell_of_heap hb2]; rfl
  have d1 : w2.cell? ⟨b, 1, none⟩ = some v := by rw [Lib.cell_of_heap hb2]; rfl
  have f1 : w2.frozen? ⟨b, 1, none⟩ = false := Lib.frozen_of_heap hb2 1
  obtain ⟨g, cap, rfl⟩ : ∃ g cap, v' = .slice (some ⟨g, 0, none⟩) (bs.length + 1) cap := by
    rcases hown'.2 with ⟨_, h0⟩ | ⟨g, cap, cur, fz, hv, _⟩
    · omega
    · exact ⟨g, cap, hv⟩
  go_wp2
  go_ret
  refine ⟨rfl, ?_, ?_, ((hk1.alloc _).grown hgrow (Lib.ownsRowF_kind (hown.alloc _))).setCell ⟨b, 1, none⟩ rfl _⟩
  · exact Lib.BuilderAtF.put (T := 112) (e := 5) hB hb2 (bs' := bs ++ [.int .u8 c]) (by simpa using hown') (by decide)
  · exact ((hb1.alloc (by have := hb1.size; omega) _).grown hgrow (by have := hb1.size; simp; omega) (fun k hk => (hown.lt k hk).1)).setCell (p := ⟨b, 1, none⟩) hB _
set_option maxHeartbeats 2000000 in
set_option maxRecDepth 100000 in
theorem rune_any (B b : Nat) (bs : List Value) (r : Int) (hr0 : -2147483648 ≤ r) (hr1 : r ≤ 2147483647) (w : World) (h : Lib.IsBuilderF 112 5 B b bs w) (hlen : bs.length + 4 ≤ 140737488355328) (hBw : B ≤ w.heap.size) :
    Calls Tryd.prog 101 #[.pointer (some ⟨b, 0, none⟩), .int .i32 r] w fun e w' => e = .returned (.tuple #[.int .i64 (Lib.runeCells r).length, .nilIface]) ∧ (Lib.BuilderAtF 112 5 B b (.pointer (some ⟨b, 0, none⟩)) (bs ++ Lib.runeCells r) w' ∧ Below B w w' ∧ Lib.OthersKept 5 (some b) w w') := by
  have hk4 := Lib.runeCells_le r
  go_enter Tryd.func101, Tryd.ntmps101
  go_wp2_with (go_at_call 126; refine (check_any B b bs _ h).mono ?_)
  rintro e w1 ⟨rfl, h1, hb1, hk1⟩
  obtain ⟨hB, v, hbk, hown, hne⟩ := h1
  obtain ⟨ao, cap, rfl⟩ : ∃ ao cap, v = .slice ao bs.length cap := by
    rcases hown.2 with ⟨hv, h0⟩ | ⟨g, cap, cur, fz, hv, _⟩
    · exact ⟨none, 0, by rw [hv, h0]⟩
    · exact ⟨_, _, hv⟩
  have c0 : w1.cell? ⟨b, 0, none⟩ = some (.pointer (some ⟨b, 0, none⟩)) := by rw [Lib.cell_of_heap hbk]; rfl
  have c1 : w1.cell? ⟨b, 1, none⟩ = some (.slice ao bs.length cap) := by rw [Lib.cell_of_heap hbk]; rfl
  go_wp2_with (go_at_call 127; refine (Any.utf8_AppendRune_own Tryd.build_lays Tryd.build_extra B _ bs.length bs r hr0 hr1 _ hown hlen (by have := hb1.size; omega)).mono ?_)
  rintro e w2 ⟨v', rfl, hown', o, hgrow⟩
  have hlt : b < w1.heap.size := by
    rcases Nat.lt_or_ge b w1.heap.size with h' | h'
    · exact h'
    · simp [Array.getElem?_eq_none h'] at hbk
  have hb2 : w2.heap[b]? = some (.cells #[.pointer (some ⟨b, 0, none⟩), .slice ao bs.length cap] 112 (0, 0)) := by
    rw [hgrow.block b (by simp; omega) (fun e => hne e.symm), Lib.alloc_old w1 _ b hlt]
    exact hbk
  have d0 : w2.cell? ⟨b, 0, none⟩ = some (.pointer (some ⟨b, 0, none⟩)) := by rw [Lib.cell_of_heap hb2]; rfl
  have d1 : w2.cell? ⟨b, 1, none⟩ = some (.slice ao bs.length cap) := by rw [Lib.cell_of_heap hb2]; rfl
  have f1 : w2.frozen? ⟨b, 1, none⟩ = false := Lib.frozen_of_heap hb2 1
  obtain ⟨g, cap', rfl⟩ : ∃ g cap', v' = .slice (some ⟨g, 0, none⟩) (bs.length + (Lib.runeCells r).length) cap' := by
    rcases hown'.2 with ⟨_, h0⟩ | ⟨g, cap', cur, fz, hv, _⟩
    · omega
    · exact ⟨g, cap', hv⟩
  go_wp2
  go_ret2
  refine ⟨?_, ?_, ?_, ((hk1.alloc _).grown hgrow (Lib.ownsRowF_kind (hown.alloc _))).setCell ⟨b, 1, none⟩ rfl _⟩
  · have e : ((bs.length : Int) + ((Lib.runeCells r).length : Int) - (bs.length : Int)) = ((Lib.runeCells r).length : Int) := by omega
    simp [e]
  · exact Lib.BuilderAtF.put (T := 112) (e := 5) hB hb2 (bs' := bs ++ Lib.runeCells r) (by rw [List.length_append]; exact hown') (by decide)
  · exact ((hb1.alloc (by have := hb1.size; omega) _).grown hgrow (by have := hb1.size; simp; omega) (fun k hk => (hown.lt k hk).1)).setCell (p := ⟨b, 1, none⟩) hB _
end Go.Proofs.YtlphmcodajookaaDoor
/- norm: plain: a rune's bytes as the builder writes them. -/
namespace Go.Proofs.YtlphmcodajookaaDoor
def str (l : List UInt8) : ByteArray := ⟨l.toArray⟩
theorem str_list (l : List UInt8) : (str l).data.toList = l := rfl
theorem str_size (l : List UInt8) : (str l).size = l.length := by simp [str, ByteArray.size]
theorem str_of (s : ByteArray) : str s.data.toList = s := rfl
theorem str_inj {a b : List UInt8} (h : str a = str b) : a = b := by
  have := congrArg (fun s : ByteArray => s.data.toList) h
  exact this
theorem byteCells_cons (b : UInt8) (l : List UInt8) : Lib.byteCells (b :: l) = .int .u8 b.toNat :: Lib.byteCells l := rfl
theorem byteCells_app (a b : List UInt8) : Lib.byteCells (a ++ b) = Lib.byteCells a ++ Lib.byteCells b := by simp [Lib.byteCells]
theorem runeCells_enc (r : Int) : Lib.runeCells r = Lib.byteCells (enc r) := by
  unfold Lib.runeCells
  rw [enc_eq]
  by_cases ho : okR r
  · rw [if_pos ho]
    obtain ⟨c, rfl⟩ : ∃ c : Nat, r = c := ⟨r.toNat, by unfold okR at ho; omega⟩
    rw [Int.toNat_natCast]
    have hc : c < 55296 ∨ (57344 ≤ c ∧ c ≤ 1114111) := by unfold okR at ho; omega
    unfold encN
    by_cases h1 : c < 128
    · rw [if_pos h1, Lib.encodeRuneZ_one (by omega) (by omega)]
      simp only [List.map_cons, List.map_nil, byteCells_cons]
      rw [toNat_of (by omega)]; rfl
    · rw [if_neg h1]
      by_cases h2 : c < 2048
      · rw [if_pos h2, Lib.encodeRuneZ_two (by omega) (by omega)]
        simp only [List.map_cons, List.map_nil, byteCells_cons]
        rw [toNat_of (by omega), toNat_of (by omega)]; simp [Lib.byteCells]
      · rw [if_neg h2]
        by_cases h3 : c < 65536
        · rw [if_pos h3, Lib.encodeRuneZ_three (by omega)]
          simp only [List.map_cons, List.map_nil, byteCells_cons]
          rw [toNat_of (by omega), toNat_of (by omega), toNat_of (by omega)]; simp [Lib.byteCells]
        · rw [if_neg h3, Lib.encodeRuneZ_four (by omega) (by omega)]
          simp only [List.map_cons, List.map_nil, byteCells_cons]
          rw [toNat_of (by omega), toNat_of (by omega), toNat_of (by omega), toNat_of (by omega)]; simp [Lib.byteCells]
  · rw [if_neg ho, Lib.encodeRuneZ_bad (by unfold okR at ho; omega)]
    rfl
theorem textI_snoc (l : List It) (x : It) : textI (l ++ [x]) = textI l ++ x.bytes := by simp [textI]
theorem textC_bad (l : List It) (x : It) (h : x.bad = true) : Lib.byteCells (textI (l ++ [x])) = Lib.byteCells (textI l) ++ [.int .u8 x.b.toNat] := by
  rw [textI_snoc, byteCells_app]; unfold It.bytes; rw [if_pos h]; rfl
theorem textC_chr (l : List It) (x : It) (h : x.bad = false) : Lib.byteCells (textI (l ++ [x])) = Lib.byteCells (textI l) ++ Lib.runeCells x.r := by
  rw [textI_snoc, byteCells_app, runeCells_enc]; unfold It.bytes; rw [if_neg (by simp [h])]
theorem It.bytes_le (x : It) : x.bytes.length ≤ 4 := by
  unfold It.bytes
  split
  · simp
  · exact (enc_pos _).2
theorem textI_le : ∀ l : List It, (textI l).length ≤ l.length * 4
  | [] => by simp [textI]
  | x :: l => by
    have h1 := textI_le l
    have h2 := x.bytes_le
    have e : textI (x :: l) = x.bytes ++ textI l := rfl
    rw [e, List.length_append, List.length_cons]
    omega
end Go.Proofs.YtlphmcodajookaaDoor
/- norm: plain: the places of a string's characters and bad bytes. -/
namespace Go.Proofs.YtlphmcodajookaaDoor
def placesF (s : ByteArray) : Nat → Nat → List Nat
  | 0, _ => []
  | n + 1, p => if restS s p = [] then [] else p :: placesF s n (p + (dL (restS s p)).2)
def places (s : ByteArray) (p : Nat) : List Nat := placesF s (s.size - p) p
/-- the item at a place -/
def itemP (s : ByteArray) (p : Nat) : It := itemD (restS s p)
theorem restS_nil {s : ByteArray} {p : Nat} (h : s.size ≤ p) : restS s p = [] := by
  apply Classical.byContradiction
  intro hn
  have := restS_ne.1 hn
  omega
theorem rest_width {s : ByteArray} {p : Nat} (h : restS s p ≠ []) : 1 ≤ (dL (restS s p)).2 ∧ p + (dL (restS s p)).2 ≤ s.size := by
  have h1 := dL_width h
  rw [restS_len] at h1
  have := restS_ne.1 h
  omega
theorem placesF_fuel (s : ByteArray) : ∀ {n m p : Nat}, s.size - p ≤ n → s.size - p ≤ m → placesF s n p = placesF s m p
  | 0, m, p, h, _ => by
    have h0 : restS s p = [] := restS_nil (by omega)
    cases m <;> simp [placesF, h0]
  | n + 1, 0, p, _, h => by
    have h0 : restS s p = [] := restS_nil (by omega)
    simp [placesF, h0]
  | n + 1, m + 1, p, h1, h2 => by
    unfold placesF
    by_cases hl : restS s p = []
    · rw [if_pos hl, if_pos hl]
    · rw [if_neg hl, if_neg hl]
      have := rest_width hl
      rw [placesF_fuel s (n := n) (m := m) (by omega) (by omega)]
theorem places_nil {s : ByteArray} {p : Nat} (h : restS s p = []) : places s p = [] := by
  unfold places
  cases s.size - p <;> simp [placesF, h]
theorem places_cons {s : ByteArray} {p : Nat} (h : restS s p ≠ []) : places s p = p :: places s (p + (dL (restS s p)).2) := by
  have hp := restS_ne.1 h
  have hw := rest_width h
  unfold places
  obtain ⟨n, hn⟩ : ∃ n, s.size - p = n + 1 := ⟨s.size - p - 1, by omega⟩
  rw [hn]
  show (if restS s p = [] then [] else p :: placesF s n _) = _
  rw [if_neg h, placesF_fuel s (n := n) (m := s.size - (p + (dL (restS s p)).2)) (by omega) (Nat.le_refl _)]
theorem places_le (s : ByteArray) : ∀ (n p : Nat), s.size - p ≤ n → (places s p).length ≤ s.size - p
  | 0, p, h => by rw [places_nil (restS_nil (by omega))]; simp
  | n + 1, p, h => by
    by_cases hl : restS s p = []
    · rw [places_nil hl]; simp
    · have hw := rest_width hl
      have := places_le s n (p + (dL (restS s p)).2) (by omega)
      rw [places_cons hl, List.length_cons]
      omega
/-- the items at the places are the text's -/
theorem places_raw (s : ByteArray) : ∀ (n p : Nat), s.size - p ≤ n → (places s p).map (itemP s) = rawL (restS s p)
  | 0, p, h => by rw [places_nil (restS_nil (by omega)), restS_nil (by omega)]; rfl
  | n + 1, p, h => by
    by_cases hl : restS s p = []
    · rw [places_nil hl, hl]; rfl
    · have hw := rest_width hl
      have ih := places_raw s n (p + (dL (restS s p)).2) (by omega)
      rw [places_cons hl, List.map_cons, ih, rawL_cons hl, ← restS_add]
      rfl
theorem places_zero (s : ByteArray) : (places s 0).map (itemP s) = rawL s.data.toList := places_raw s s.size 0 (by omega)
/-- what lies ahead of a place -/
theorem places_at (s : ByteArray) : ∀ (pre : List Nat) (p q : Nat) (post : List Nat), places s p = pre ++ q :: post → p ≤ q ∧ q < s.size ∧ textI (pre.map (itemP s)) = (restS s p).take (q - p) ∧ q :: post = places s q
  | [], p, q, post, h => by
    by_cases hl : restS s p = []
    · rw [places_nil hl] at h; simp at h
    · have h' := h
      rw [places_cons hl] at h
      simp only [List.nil_append, List.cons.injEq] at h
      obtain ⟨rfl, _⟩ := h
      refine ⟨Nat.le_refl _, restS_ne.1 hl, by simp [textI], h'.symm⟩
  | x :: pre, p, q, post, h => by
    by_cases hl : restS s p = []
    · rw [places_nil hl] at h; simp at h
    · rw [places_cons hl] at h
      simp only [List.cons_append, List.cons.injEq] at h
      obtain ⟨rfl, h⟩ := h
      have hw := rest_width hl
      obtain ⟨h1, h2, h3, h4⟩ := places_at s pre _ q post h
      refine ⟨by omega, h2, ?_, h4⟩
      show (itemP s p).bytes ++ textI (pre.map (itemP s)) = _
      rw [h3, restS_add]
      unfold itemP
      rw [(itemD_ok hl).2.1]
      obtain ⟨d, hd⟩ : ∃ d, d = (dL (restS s p)).2 := ⟨_, rfl⟩
      rw [← hd] at h1 hw ⊢
      rw [show q - p = d + (q - (p + d)) by omega, List.take_add]
end Go.Proofs.YtlphmcodajookaaDoor
/- scan.All: its iterator, for every loop's body. -/
namespace Go.Proofs.YtlphmcodajookaaDoor
open Go.RowKit Go.Shelf
attribute [local go_sem] Oper.semAt_some
/-- what a round gets: a place and the number there -/
def encA (s : ByteArray) (q : Nat) : Array Value := #[.int .i64 ((min q s.size : Nat) : Int), .int .i32 (dL (restS s q)).1]
theorem encA_at {s : ByteArray} {q : Nat} (h : restS s q ≠ []) : encA s q = #[.int .i64 (q : Int), .int .i32 (dL (restS s q)).1] := by
  have := restS_ne.1 h
  unfold encA
  rw [Nat.min_eq_left (by omega)]
theorem Stay.toGrown {b : Nat} {w w' : World} (h : Stay [b] w w') : w.grownBy w' (some b) :=
  ⟨h.os, h.tape, h.output, h.size, fun i hi hne => h.block i hi (by simp only [List.mem_singleton]; intro e; exact hne (by rw [e]))⟩
theorem IterS.walks {w w' : World} {ib : Nat} {s : ByteArray} {p : Nat} (h : IterS w ib s p) (hk : KeepsWalks w w') : IterS w' ib s p := hk.same _ _ h rfl
set_option maxRecDepth 100000 in
set_option maxHeartbeats 4000000 in
theorem all_in (l n sb : Nat) (s : ByteArray) (J Jx : List Nat → World → Prop) (W : World) (hJ : AbidesFrom W.heap.size J)
    (hY : ∀ pre x W1, J pre W1 → pre.length < s.size → YieldAt Fence.wide (n - 1) Tryd.prog l (encA s x) W1 fun e W' =>
      (e = .returned (.bool true) ∧ J (pre ++ [x]) W' ∧ KeepsWalks W1 W') ∨ (e = .returned (.bool false) ∧ Jx (pre ++ [x]) W'))
    (hs : W.cell? ⟨sb, 0, none⟩ = some (.string s)) (h0 : J [] W) :
    CallsIn Fence.wide n Tryd.prog 80 #[.func (.yield l) #[] #[], .pointer (some ⟨sb, 0, none⟩)] W fun e W' => (∃ v, e = .returned v) ∧
      ((∃ ys, ys = places s 0 ∧ J ys W') ∨ (∃ pre, (pre <+: places s 0 ∧ pre ≠ []) ∧ Jx pre W')) := by
  refine callsIn_of_wp Tryd.func80 rfl trivial ?_ rfl
  simp only [Tryd.ntmps80, List.size_toArray, List.length_cons, List.length_nil, Nat.reduceAdd, Nat.reduceSub, Array.replicate_succ, Array.replicate_zero, List.push_toArray, List.append_toArray, List.nil_append, List.cons_append]
  have hI0 : IterS (W.iter s 0) W.heap.size s 0 := IterS.new W s
  have hJ0 : J [] (W.iter s 0) := hJ [] W _ none h0 (World.grownBy_alloc W _ none) (fun r e => by cases e)
  have HI0 := Lib.hid hI0
  have HJ0 := Lib.hid hJ0
  have HJ := Lib.hid hJ
  have HY := Lib.hid hY
  obtain ⟨ib, hib⟩ : ∃ ib, ib = W.heap.size := ⟨_, rfl⟩
  have HB := Lib.hid hib
  clear hI0 hJ0 hJ hY h0 hib
  gi_wp2
  gi_loopw [3, 4] (fun _ _ wr => ∃ (p : Nat) (pre : List Nat), IterS wr ib s p ∧ pre ++ places s p = places s 0 ∧ pre.length ≤ p ∧ J pre wr)
    (fun _ _ wr => leftS wr ib)
  case atStart =>
    rw [HB.out]
    exact ⟨0, [], HI0.out, rfl, Nat.le_refl _, HJ0.out⟩
  case round =>
    obtain ⟨p, pre, hI, hp, hpl, hJp⟩ := hrel
    rw [← HB.out]
    by_cases hr : restS s p = []
    · have hn := fun ty => snext_none (P := Tryd.prog) hI ty hr
      rw [places_nil hr, List.append_nil] at hp
      have HP := Lib.hid (And.intro hp hJp)
      clear hI hp hpl hJp HI0 HJ0
      gi_wp2
      go_end0
      exact ⟨⟨_, rfl⟩, .inl (by first | exact ⟨pre, HP.out⟩ | (rw [← HP.out.1]; exact HP.out.2))⟩
    · have hlt := restS_ne.1 hr
      have HE := encA_at hr
      obtain ⟨w2, hn, hI2, hS2⟩ := snext_some (P := Tryd.prog) hI 0 hr
      have hJ2 : J pre w2 := HJ.out pre wr w2 (some ib) hJp hS2.toGrown (fun r e => by cases e; exact ⟨by have := HB.out; omega, _, hI, rfl⟩)
      obtain ⟨fn, tmps, assign, body, hy, hR⟩ := HY.out pre p w2 hJ2 (by omega)
      rw [HE] at hy
      have HP := Lib.hid (show (pre ++ [p]) ++ places s (p + (dL (restS s p)).2) = places s 0 from by rw [← hp, places_cons hr]; simp)
      have HL := Lib.hid (show (pre ++ [p]).length ≤ p + (dL (restS s p)).2 from by have := (rest_width hr).1; rw [List.length_append, List.length_singleton]; omega)
      have HM := Lib.hid (show leftS wr ib = (restS s p).length from leftS_eq hI)
      have HW := Lib.hid (And.intro hr (rest_width hr))
      have HI2 := Lib.hid hI2
      have HR := Lib.hid hR
      obtain ⟨d, hd⟩ : ∃ d, d = (dL (restS s p)).2 := ⟨_, rfl⟩
      obtain ⟨r, hrr⟩ : ∃ r, r = (dL (restS s p)).1 := ⟨_, rfl⟩
      rw [← hd] at HP HL HI2 HW
      rw [← hrr] at hn hy
      clear hd hrr hp hpl hJp hI hI2 hS2 hJ2 HI0 HJ0 HJ HY HE hR hr
      gi_wp2
      refine ⟨fun h => (by simp [Fence.wide] at h), HR.out.mono ?_⟩
      rintro e W3 (⟨rfl, hJ3, hk3⟩ | ⟨rfl, hJx3⟩)
      · have HI3 := Lib.hid (HI2.out.walks hk3)
        have HJ3 := Lib.hid hJ3
        clear hJ3 hk3
        gi_wp2
        go_roundw
        case rel => exact ⟨_, _, HI3.out, HP.out, HL.out, HJ3.out⟩
        case measure =>
          rw [leftS_eq HI3.out, HM.out, restS_len, restS_len]
          have := HW.out.2
          omega
      · have HJx := Lib.hid hJx3
        clear hJx3
        gi_wp2
        refine bodyPost_ret (results_none rfl _ _ _) rfl ?_
        exact ⟨⟨_, rfl⟩, .inr ⟨_, ⟨⟨_, HP.out⟩, by simp⟩, HJx.out⟩⟩
/-- the iterator's contract -/
theorem all_stops (w : World) (n sb : Nat) (s : ByteArray) (hs : w.cell? ⟨sb, 0, none⟩ = some (.string s)) :
    SeqStopsK Fence.wide n Tryd.prog 80 #[.pointer (some ⟨sb, 0, none⟩)] (encA s) KeepsWalks (fun ys => ys = places s 0) (fun pre => pre <+: places s 0 ∧ pre ≠ []) s.size w := fun l J Jx W hW hab _ hY h0 =>
  all_in l n sb s J Jx W hab hY ((hW.cell (p := ⟨sb, 0, none⟩) (World.block_lt_of_cell? _ _ hs)).trans hs) h0
theorem all_any (s : ByteArray) (w : World) : Calls Tryd.prog 37 #[.string s] w fun e w' => e = .returned (.func (.func 80) #[] #[.pointer (some ⟨w.heap.size, 0, none⟩)]) ∧ w' = w.alloc (.cells #[.string s] 9) := by
  go_enter Tryd.func37, Tryd.ntmps37
  go_wp2_with fail
  go_ret
  exact ⟨rfl, rfl⟩
end Go.Proofs.YtlphmcodajookaaDoor
/- a region that draws its order, in a loop's body over an iterator: it is walked as in a function. -/
namespace Go.Proofs.YtlphmcodajookaaDoor
open Go.RowKit
section
variable {P : Program} {ops : Array Oper} {Q : Exit → Act → World → Prop} {md : Region.Mode} {n l : Nat}
theorem rows_wide {n : Nat} {row : String} {args : Array Value} {w : World} {R : Value → World → Prop} (h : Rows P row args w R) : RowsIn (Fence.wide.inRound l) n P row args w R := fun c cs _ => by
  obtain ⟨v, w', r, s⟩ := h c cs
  exact ⟨v, w', r, stepsIn_wide.2 s⟩
theorem oper_round {o : Oper} {a : Act} {w : World} {K : Act → World → Prop} (hd : ∀ c, o.op ≠ .defer c) (h : o.wp P a w K Q) : o.wpIn (Fence.wide.inRound l) n P a w K Q := by
  refine ⟨fun _ _ => trivial, ?_⟩
  rw [Oper.semAt_plain _ _ _ hd]
  unfold Oper.wp at h
  revert h
  generalize (execOp a.eval o).run P w = r
  intro h
  cases r with
  | ok x w' =>
    cases x <;> simp only [Oper.upon, Oper.uponIn] at h ⊢ <;>
      first
        | exact h
        | exact ⟨fun h => by simp [Fence.wide] at h, (callsIn_wide.2 h).inRound l⟩
        | exact ⟨fun h => by simp [Fence.wide] at h, rows_wide h⟩
  | halt x w' => cases x <;> simp only [Oper.upon, Oper.uponIn] at h ⊢ <;> exact h
def noDefer (ops : Array Oper) : Bool := ops.all fun o => match o.op with | .defer _ => false | _ => true
theorem noDefer_spec (h : noDefer ops = true) {i : Nat} {o : Oper} (hi : ops[i]? = some o) : ∀ c, o.op ≠ .defer c := fun c hc => by
  unfold noDefer at h
  rw [Array.all_eq_true_iff_forall_mem] at h
  have := h o (Array.mem_of_getElem? hi)
  rw [hc] at this
  cases this
theorem wpOp_round (hd : noDefer ops = true) (hQ : ¬ LetsOut Q) {i : Nat} {K : Act → World → Prop} {a : Act} {w : World} (h : wpOp P ops Q i K a w) : wpOpIn (Fence.wide.inRound l) n P ops Q i K a w := by
  unfold wpOpIn
  unfold wpOp at h
  cases ho : ops[i]? with
  | none => simpa [ho] using h
  | some o =>
    simp only [ho] at h ⊢
    split
    · rename_i hw
      rw [if_pos hw] at h
      rcases h with h | h
      · exact oper_round (noDefer_spec hd ho) h
      · exact absurd h.2 hQ
    · rename_i hw
      rw [if_neg hw] at h
      exact ⟨fun _ _ => trivial, h⟩
theorem wpAny_round (hd : noDefer ops = true) (hQ : ¬ LetsOut Q) : ∀ (fuel : Nat) (listed : Array Bool) (a : Act) (w : World), wpAny P md ops Q fuel listed a w → wpAnyIn (Fence.wide.inRound l) n P md ops Q fuel listed a w
  | 0, _, _, _, h => h
  | fuel + 1, _, _, _, h => ⟨h.1, fun i hi => wpOpIn_mono (fun a w h => wpAny_round hd hQ fuel _ a w h) (wpOp_round hd hQ (h.2 i hi))⟩
/-- the beginning, with a condition that is held -/
theorem wp_region_round {id : Nat} {a : Act} {w : World} (S : World → Prop) (hm : P.follows .mixedOrders = true) (hd : noDefer ops = true) (hQ : ¬ LetsOut Q) (hS : S w.drew)
    (h : S w.drew → wpAnyH P .any ops Q S ops.size (Array.replicate ops.size false) a w.drew) : (Code.region id ops true).wpIn (Fence.wide.inRound l) n P Q a w :=
  wpIn_region_any hm (wpAny_round hd hQ _ _ _ _ (wpAny_of_held _ _ _ _ (h hS)))
/-- the beginning: a condition that the region's last stores break -/
theorem AnyN.round {id : Nat} {a : Act} {w : World} (S : World → Prop) (N : List Nat) (hm : P.follows .mixedOrders = true) (hd : noDefer ops = true) (hQ : ¬ LetsOut Q)
    (h : AnyN P .any ops Q S N ops.size (Array.replicate ops.size false) a w.drew) : (Code.region id ops true).wpIn (Fence.wide.inRound l) n P Q a w :=
  wpIn_region_any hm (wpAny_round hd hQ _ _ _ _ (AnyN.any _ _ _ _ h))
end
end Go.Proofs.YtlphmcodajookaaDoor
/- scan.Next: the walk. -/
namespace Go.Proofs.YtlphmcodajookaaDoor
open Go.RowKit
/-- the first character, as scan.Next tells it -/
def nextD (l : List UInt8) : Nat × Nat := if l = [] then (65533, 0) else dL l
theorem decodeGo_next (s : ByteArray) : Lib.decodeGo s = nextD s.data.toList := by
  unfold Lib.decodeGo nextD
  have e := decode_dL s 0
  rw [List.drop_zero] at e
  by_cases h : s.size = 0
  · have hl : s.data.toList = [] := List.eq_nil_of_length_eq_zero (by rw [Array.length_toList]; exact h)
    rw [if_pos h, if_pos hl]
  · have hl : s.data.toList ≠ [] := fun hl => h (by have := congrArg List.length hl; rwa [Array.length_toList] at this)
    rw [if_neg h, if_neg hl, e]
theorem next_any (s : ByteArray) (w : World) (hT : Lib.Utf8Tabs 0 1 w) :
    Calls Tryd.prog 38 #[.string s] w fun e w' => e = .returned (.tuple #[.int .i32 (nextD s.data.toList).1, .int .i64 (nextD s.data.toList).2]) ∧ Stay [] w w' := by
  have H := Lib.hid (Tryd.utf8_DecodeRuneInString s w hT)
  rw [decodeGo_next] at H
  obtain ⟨a, ha⟩ : ∃ a, a = (nextD s.data.toList).1 := ⟨_, rfl⟩
  obtain ⟨b, hb⟩ : ∃ b, b = (nextD s.data.toList).2 := ⟨_, rfl⟩
  rw [← ha, ← hb] at H ⊢
  clear ha hb hT
  go_enter Tryd.func38, Tryd.ntmps38
  go_wp2_with (go_at_call 81; refine H.out.mono ?_; rintro e w2 ⟨rfl, h2⟩; have H2 := Lib.hid h2; clear h2)
  exact bodyPost_ret (v := .tuple #[.int .i32 a, .int .i64 b]) (by simp [results, Tryd.results38, go_sem]) rfl ⟨rfl, Stay.below H2.out⟩
theorem extract_rest (s : ByteArray) (p : Nat) : (s.extract p s.size).data.toList = restS s p := by
  unfold restS
  rw [ByteArray.data_extract, Array.toList_extract]
  show List.take (s.size - p) (List.drop p s.data.toList) = _
  rw [List.take_of_length_le]
  rw [List.length_drop, Array.length_toList]
  exact Nat.le_refl _
theorem restS_min (s : ByteArray) (q : Nat) : restS s (min q s.size) = restS s q := by
  by_cases h : q ≤ s.size
  · rw [Nat.min_eq_left h]
  · rw [Nat.min_eq_right (by omega), restS_nil (Nat.le_refl _), restS_nil (by omega)]
theorem rest_head {s : ByteArray} {p : Nat} (h : p < s.size) : s[p].toNat = ((restS s p).headD 0).toNat := by
  have h1 : (restS s p).headD 0 = s.data.toList.getD p 0 := by
    unfold restS
    rw [List.headD_eq_head?_getD, List.head?_drop, List.getD_eq_getElem?_getD]
  rw [h1, List.getD_eq_getElem?_getD, Array.getElem?_toList, Array.getElem?_eq_getElem h]
  rfl
/-- a number that a text holds -/
theorem dL_range (l : List UInt8) : okR (dL l).1 := by
  by_cases hl : l = []
  · subst hl; exact .inl ⟨by decide, by decide⟩
  · by_cases h : badD (dL l) = true
    · rw [(dL_bad hl h).1]; exact .inr ⟨by decide, by decide⟩
    · exact (dL_good hl (by simpa using h)).1
theorem next_bad (l : List UInt8) (h : badD (dL l) = true) : nextD l = (65533, 1) ∧ (dL l).1 = 65533 ∧ l ≠ [] := by
  have hl : l ≠ [] := fun e => by subst e; exact absurd h (by decide)
  obtain ⟨h1, _⟩ := dL_bad hl h
  unfold nextD
  rw [if_neg hl, h1]
  exact ⟨rfl, rfl, hl⟩
theorem next_chr (l : List UInt8) (h : badD (dL l) = false) : ¬ ((dL l).1 = 65533 ∧ (nextD l).2 = 1) := fun ⟨h1, h2⟩ => by
  unfold nextD at h2
  by_cases hl : l = []
  · rw [if_pos hl] at h2; cases h2
  · rw [if_neg hl] at h2
    unfold badD at h
    simp [h1, h2] at h
end Go.Proofs.YtlphmcodajookaaDoor
/- norm: text: items as a text: the walk. -/
namespace Go.Proofs.YtlphmcodajookaaDoor
open Go.RowKit
/-- items in memory -/
def ItAt (w : World) (A : Option Addr) (L : List It) : Prop :=
  L = [] ∨ ∃ g o, A = some ⟨g, o, none⟩ ∧ g < w.heap.size ∧ ∀ i x, L[i]? = some x →
    w.cell? ⟨g, o + i * 4, none⟩ = some (.int .i32 x.r) ∧ w.cell? ⟨g, o + i * 4 + 1, none⟩ = some (.int .u8 x.b.toNat) ∧ w.cell? ⟨g, o + i * 4 + 2, none⟩ = some (.bool x.bad) ∧ w.cell? ⟨g, o + i * 4 + 3, none⟩ = some (.int .u8 (keyI x))
theorem SegI.items {w : World} {g : Nat} {pre post : List Value} {L : List It} (h : SegI w g pre L post) : ItAt w (some ⟨g, pre.length, none⟩) L :=
  .inr ⟨g, pre.length, rfl, h.lt, fun _ _ hi => h.cell hi⟩
theorem ItAt.below {w w' : World} {A : Option Addr} {L : List It} (h : ItAt w A L) (hb : Below w.heap.size w w') : ItAt w' A L := by
  rcases h with h | ⟨g, o, hA, hlt, hc⟩
  · exact .inl h
  · refine .inr ⟨g, o, hA, Nat.lt_of_lt_of_le hlt hb.size, fun i x hi => ?_⟩
    obtain ⟨h0, h1, h2, h3⟩ := hc i x hi
    exact ⟨(hb.cell hlt).trans h0, (hb.cell hlt).trans h1, (hb.cell hlt).trans h2, (hb.cell hlt).trans h3⟩
/-- a builder stays where nothing that was there is written -/
theorem builder_stay {B b : Nat} {f : List Value} {W W' : World} (h : Lib.IsBuilderF 112 5 B b f W) (hs : Stay [] W W') : Lib.IsBuilderF 112 5 B b f W' := by
  have keep : ∀ (k : Nat) (cur : Array Value) (e : TypeId) (fz : Nat × Nat), W.heap[k]? = some (.cells cur e fz) → W'.heap[k]? = some (.cells cur e fz) := fun k cur e fz hk =>
    (hs.block k (Array.getElem?_eq_some_iff.1 hk).1 (by simp)).trans hk
  have key : ∀ p, Lib.BuilderAtF 112 5 B b p f W → Lib.BuilderAtF 112 5 B b p f W' := by
    rintro p ⟨hB, v, hb, hown, hne⟩
    refine ⟨hB, v, keep _ _ _ _ hb, ⟨hown.1, ?_⟩, hne⟩
    rcases hown.2 with h0 | ⟨g, cap, cur, fz, h1, h2, h3, h4⟩
    · exact .inl h0
    · exact .inr ⟨g, cap, cur, fz, h1, h2, keep _ _ _ _ h3, h4⟩
  rcases h with hs | hs
  · exact .inl (key _ hs)
  · exact .inr (key _ hs)
set_option maxRecDepth 20000 in
set_option maxHeartbeats 4000000 in
theorem text_any (A : Option Addr) (c n : Nat) (L : List It) (w : World) (hn : n = L.length) (h : ItAt w A L) (hl : L.length ≤ 35184372088832) (hr : ∀ x ∈ L, -2147483648 ≤ x.r ∧ x.r ≤ 2147483647) :
    Calls Tryd.prog 73 #[.slice A n c] w fun e w' => e = .returned (.string (str (textI L))) ∧ Stay [] w w' := by
  obtain ⟨b, hb⟩ : ∃ b, b = w.heap.size := ⟨_, rfl⟩
  obtain ⟨W, hW⟩ : ∃ W, W = w.alloc (.cells #[.pointer none, .slice none 0 0] 112) := ⟨_, rfl⟩
  have hbk : W.heap[b]? = some (.cells #[.pointer none, .slice none 0 0] 112) := by rw [hW, hb]; exact heap_alloc_new w _
  have HS0 := Lib.hid (show Below b w W from by rw [hW, hb]; exact (Below.refl _ _).alloc (Nat.le_refl _) _)
  have HB0 := Lib.hid (show Lib.IsBuilderF 112 5 b b (Lib.byteCells (textI (L.take 0))) W from .inl ⟨Nat.le_refl _, .slice none 0 0, hbk, ⟨rfl, .inl ⟨rfl, rfl⟩⟩, by simp [Value.ownBlock]⟩)
  have HW := Lib.hid (And.intro hW hb)
  have HI := Lib.hid h
  have HR := Lib.hid (And.intro hl hr)
  have HN := Lib.hid hn
  clear hbk hW hb h hl hr hn
  go_enter Tryd.func73, Tryd.ntmps73
  go_wp2_with fail
  rw [← HW.out.1, ← HW.out.2]
  go_loopw [8] (fun v8 wr => ∃ k : Nat, v8 = .int .i64 k ∧ k ≤ n ∧ Lib.IsBuilderF 112 5 b b (Lib.byteCells (textI (L.take k))) wr ∧ Below b w wr)
    (fun v8 _ => (n - intOf v8).toNat)
  case atStart => exact ⟨0, rfl, Nat.zero_le _, HB0.out, HS0.out⟩
  case round =>
    obtain ⟨k, rfl, hk, hb, hs⟩ := hrel
    have hbw : b ≤ wr.heap.size := by have := hs.size; have := HW.out.2; omega
    by_cases hkl : k = n
    · subst hkl
      rw [HN.out, List.take_length] at hb
      have HC := Lib.hid (Tryd.Builder_String_any_k b b (textI L) wr hb hbw)
      have HSt := Lib.hid (show Stay [] w wr from Stay.below (by rw [← HW.out.2]; exact hs))
      have HBw := Lib.hid hs
      clear hb hs HB0 HS0
      go_wp2_with (go_at_call 113; refine HC.out.mono ?_; rintro e w2 ⟨rfl, _, h2, _⟩; have H2 := Lib.hid h2; clear h2)
      go_ret
      refine ⟨rfl, Stay.below ?_⟩
      rw [← HW.out.2]
      exact HBw.out.trans H2.out
    · have hkn : k < n := by omega
      obtain ⟨x, hx⟩ : ∃ x, L[k]? = some x := ⟨_, List.getElem?_eq_getElem (by have := HN.out; omega)⟩
      have hit := HI.out.below (w' := wr) (by rw [← HW.out.2]; exact hs)
      rcases hit with hit | ⟨g, o, rfl, hg, hc⟩
      · rw [hit] at hx; simp at hx
      obtain ⟨c0, c1, c2, c3⟩ := hc k x hx
      have hxm := HR.out.2 x (List.mem_of_getElem? hx)
      have htk : L.take (k + 1) = L.take k ++ [x] := by rw [List.take_add_one, hx]; rfl
      have hlen : (Lib.byteCells (textI (L.take k))).length + 4 ≤ 140737488355328 := by
        rw [Lib.byteCells_length]
        have h1 := textI_le (L.take k)
        rw [List.length_take, Nat.min_eq_left (by have := HN.out; omega)] at h1
        have := HR.out.1
        have := HN.out
        omega
      obtain ⟨q, hq⟩ : ∃ q, q = wr.heap.size := ⟨_, rfl⟩
      obtain ⟨V, hV⟩ : ∃ V, V = wr.alloc (.cells #[.int .i32 x.r, .int .u8 x.b.toNat, .bool x.bad, .int .u8 (keyI x)] 67) := ⟨_, rfl⟩
      have hbv : Blk V q [.int .i32 x.r, .int .u8 x.b.toNat, .bool x.bad, .int .u8 (keyI x)] 67 := by
        rw [hV, hq]
        exact Blk.new wr [.int .i32 x.r, .int .u8 x.b.toNat, .bool x.bad, .int .u8 (keyI x)] 67
      have hsv : Stay [] wr V := by
        rw [hV]
        exact Stay.alloc wr _
      have x0 := hbv.cell 0
      have x1 := hbv.cell 1
      have x2 := hbv.cell 2
      have x3 := hbv.cell 3
      simp at x0 x1 x2 x3
      have hbV := builder_stay hb hsv
      have HS2 := Lib.hid (hs.trans (hsv.toBelow (B := b) hbw (by simp)))
      have HTk := Lib.hid htk
      have HbV := Lib.hid (show b ≤ V.heap.size from Nat.le_trans hbw hsv.size)
      have HBad := Lib.hid (textC_bad (L.take k) x)
      have HChr := Lib.hid (textC_chr (L.take k) x)
      have HV := Lib.hid (And.intro hV hq)
      have HLen := Lib.hid hlen
      have HXm := Lib.hid hxm
      have HBV := Lib.hid hbV
      have hkn' : (k : Int) < n := by omega
      have hn64 : n ≤ 35184372088832 := by have := HR.out.1; have := HN.out; omega
      have hw64 : wrap64 ((k : Int) + 1) = (k : Int) + 1 := by unfold wrap64; omega
      clear hb hs HB0 HS0 hx hc hg hbw hlen hxm htk hV hq hbv hsv hbV
      obtain ⟨xr, hxr⟩ : ∃ r, r = x.r := ⟨_, rfl⟩
      obtain ⟨xb, hxb⟩ : ∃ r, r = x.b.toNat := ⟨_, rfl⟩
      obtain ⟨xk, hxk⟩ : ∃ r, r = keyI x := ⟨_, rfl⟩
      rw [← hxr] at HXm HChr HV c0 x0
      rw [← hxb] at HBad HV c1 x1
      rw [← hxk] at HV c3 x3
      clear hxr hxb hxk
      go_upto_region 5 with fail
      rw [← HV.out.1, ← HV.out.2]
      cases hbd : x.bad with
      | true =>
        have HC := Lib.hid (byte_any b b (Lib.byteCells (textI (L.take k))) xb V HBV.out (by have := HLen.out; omega) HbV.out)
        have HE := HBad.out hbd
        rw [hbd] at x2 c2
        clear HLen HBad HChr
        go_wp2_with (go_at_call 112; refine HC.out.mono ?_; rintro e w2 ⟨rfl, h1, h2, _⟩; have H1 := Lib.hid h1; have H2 := Lib.hid h2; clear h1 h2)
        go_roundw
        case rel => exact ⟨k + 1, by simp, by omega, by rw [HTk.out, HE]; exact .inr H1.out, HS2.out.trans H2.out⟩
        case measure => simp [intOf]; omega
      | false =>
        have HC := Lib.hid (rune_any b b (Lib.byteCells (textI (L.take k))) xr HXm.out.1 HXm.out.2 V HBV.out HLen.out HbV.out)
        have HE := HChr.out hbd
        rw [hbd] at x2 c2
        clear HLen HBad HChr
        go_wp2_with (go_at_call 101; refine HC.out.mono ?_; rintro e w2 ⟨rfl, h1, h2, _⟩; have H1 := Lib.hid h1; have H2 := Lib.hid h2; clear h1 h2)
        go_roundw
        case rel => exact ⟨k + 1, by simp, by omega, by rw [HTk.out, HE]; exact .inr H1.out, HS2.out.trans H2.out⟩
        case measure => simp [intOf]; omega
end Go.Proofs.YtlphmcodajookaaDoor
