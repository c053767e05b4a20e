import Derived.Test.YtikbagggffehkaaAMA
import Derived.Test.YtikbagggffehkaaAMD
import Derived.Test.YtikbagggffehkaaHelp
set_option linter.unusedVariables false
set_option linter.unusedSimpArgs false
namespace Go.AM
def f_play_Sku_B : ICode :=
 (.seq
 (.ops [ iP 2 .id [.c (.string ⟨#[]⟩)]])
 (.seq
 (.ops [ iP 3 .id [.t 0], iP 4 (.call "haberdash/haberdashplay.Mod" []) [.t 3, kI 8], iP 5 (.convInt .u8) [.t 4], iP 6 (.bin .add) [.c (.int .u8 97), .t 5], iP 7 (.buildSlice 0 false 1 1 [(.int .u8 0)] [(0, 1)]) [.t 6], iP 8 .bytesStr [.t 7], iP 2 .id [.t 8]])
 .ret))
def f_play_Sku : IFn := ⟨9, 1, [.tmp 2], f_play_Sku_B⟩
def f_play_Category_B : ICode :=
 (.seq
 (.ops [ iP 2 .id [.c (.string ⟨#[]⟩)]])
 (.seq
 (.ops [ iP 3 .id [.t 0], iP 4 (.call "haberdash/haberdashplay.Mod" []) [.t 3, kI 3], iP 5 (.convInt .u8) [.t 4], iP 6 (.bin .add) [.c (.int .u8 120), .t 5], iP 7 (.buildSlice 0 false 1 1 [(.int .u8 0)] [(0, 1)]) [.t 6], iP 8 .bytesStr [.t 7], iP 2 .id [.t 8]])
 .ret))
def f_play_Category : IFn := ⟨9, 1, [.tmp 2], f_play_Category_B⟩
def f_play_Mod_B : ICode :=
 (.seq
 (.ops [ iP 4 .id [kI 0]])
 (.seq
 (.ops [ iP 5 .id [.t 0], iP 6 (.convInt .u64) [.t 5], iP 7 .id [.t 1], iP 8 (.convInt .u64) [.t 7], iP 9 (.bin .rem) [.t 6, .t 8], iP 10 (.convInt .i64) [.t 9], iP 4 .id [.t 10]])
 .ret))
def f_play_Mod : IFn := ⟨11, 0, [.tmp 4], f_play_Mod_B⟩
def f_play_Items_L0 : ICode :=
 (.seq
 (.seq
 (.ops [ iP 6 .id [.t 4], iP 7 (.bin .lss) [.t 6, kI 8]])
 (.cond (.t 7)
 .skip
 (.exit 0)))
 (.seq
 (.block 1
 (.seq
 (.ops [ iP 10 .id [.t 4], iP 11 (.call "haberdash/haberdashplay.Sku" []) [.t 10], iP 12 .id [.t 4], iP 13 (.call "haberdash/haberdashplay.Category" []) [.t 12], iP 14 .id [.t 4], iP 15 (.bin .mul) [kI 37, .t 14], iP 16 (.bin .add) [kI 100, .t 15], iP 17 (.build [(.string ⟨#[]⟩), (.string ⟨#[]⟩), (.int .i64 0), (.bool false)] [(0, 1), (1, 1), (2, 1)]) [.t 11, .t 13, .t 16], iP 5 (.alloc 1 [(.string ⟨#[]⟩), (.string ⟨#[]⟩), (.int .i64 0), (.bool false)] []) [], iN (.store 4 false) [.t 5, .t 17]])
 (.seq
 (.seq
 (.ops [ iP 18 .id [.t 4], iP 19 .id [.t 0], iP 20 .lenSlice [.t 19], iP 21 (.bin .lss) [.t 18, .t 20]])
 (.cond (.t 21)
 (.draw [ iP 22 .id [.t 0], iP 23 .id [.t 4], iP 24 (.indexAddr 4) [.t 22, .t 23], iP 25 (.fieldAddr 1) [.t 24], iP 26 (.load 1 false) [.t 25], iP 27 (.call "haberdash/haberdashplay.pick" []) [.t 26], iP 28 (.call "haberdash/haberdashplay.Category" []) [.t 27], iP 29 .id [.t 0], iP 30 .id [.t 4], iP 31 (.indexAddr 4) [.t 29, .t 30], iP 32 (.fieldAddr 2) [.t 31], iP 33 (.load 1 false) [.t 32], iP 34 (.call "haberdash/haberdashplay.Mod64" []) [.t 33, kI 4000], iP 35 .id [.t 0], iP 36 .id [.t 4], iP 37 (.indexAddr 4) [.t 35, .t 36], iP 38 (.fieldAddr 3) [.t 37], iP 39 (.load 1 false) [.t 38], iP 40 .id [.t 39], iG 40 true 41 .id [.t 4], iG 40 true 42 (.bin .eql) [.t 41, kI 7], iP 43 .pick [.t 40, .t 42, .c (.bool false)], iP 44 (.fieldAddr 1) [.t 5],
 ⟨none, .store 1 false, [.t 44, .t 28], none, [], [1], false⟩, iP 45 (.fieldAddr 2) [.t 5],
 ⟨none, .store 1 false, [.t 45, .t 34], none, [], [1], false⟩, iP 46 (.fieldAddr 3) [.t 5],
 ⟨none, .store 1 false, [.t 46, .t 43], none, [], [1], false⟩])
 .skip))
 (.ops [ iP 47 .id [.t 3], iP 48 (.load 4 true) [.t 5], iP 49 (.buildSlice 2 false 4 1 [(.string ⟨#[]⟩), (.string ⟨#[]⟩), (.int .i64 0), (.bool false)] [(0, 4)]) [.t 48], iP 50 (.append 3 false 4 48) [.t 47, .t 49], iP 3 .id [.t 50]]))))
 (.ops [ iP 8 .id [.t 4], iP 9 (.bin .add) [.t 8, kI 1], iP 4 .id [.t 9]])))
def f_play_Items_B : ICode :=
 (.seq
 (.ops [ iP 2 .id [.c (.slice none 0 0)]])
 (.seq
 (.ops [ iP 3 (.nilv 0 4) [.c (.slice none 0 0)]])
 (.seq
 (.seq
 (.ops [ iP 4 .id [kI 0]])
 (.block 0
 (.loop [1, 2, 5, 6, 7, 8, 9, 10, 11, 12, 13, 14, 15, 16, 17, 18, 19, 20, 21, 22, 23, 24, 25, 26, 27, 28, 29, 30, 31, 32, 33, 34, 35, 36, 37, 38, 39, 40, 41, 42, 43, 44, 45, 46, 47, 48, 49, 50, 51] [1, 2, 3] f_play_Items_L0)))
 (.seq
 (.ops [ iP 51 .id [.t 3], iP 2 .id [.t 51]])
 .ret))))
def f_play_Items : IFn := ⟨52, 4, [.tmp 2], f_play_Items_B⟩
def f_play_pick_L0 : ICode :=
 (.seq
 (.seq
 (.ops [ iP 7 .id [.t 4], iP 8 .id [.t 0], iP 9 .lenStr [.t 8], iP 10 (.bin .lss) [.t 7, .t 9], iP 11 .id [.t 10], iG 11 true 12 .id [.t 4], iG 11 true 13 (.bin .lss) [.t 12, kI 8], iP 14 .pick [.t 11, .t 13, .c (.bool false)]])
 (.cond (.t 14)
 .skip
 (.exit 0)))
 (.seq
 (.block 1
 (.ops [ iP 17 .id [.t 3], iP 18 (.bin .mul) [kI 7, .t 17], iP 19 .id [.t 0], iP 20 .id [.t 4], iP 21 .indexStr [.t 19, .t 20], iP 22 (.convInt .i64) [.t 21], iP 23 (.bin .add) [.t 18, .t 22], iP 3 .id [.t 23]]))
 (.ops [ iP 15 .id [.t 4], iP 16 (.bin .add) [.t 15, kI 1], iP 4 .id [.t 16]])))
def f_play_pick_B : ICode :=
 (.seq
 (.ops [ iP 2 .id [kI 0]])
 (.seq
 (.ops [ iP 5 .id [.t 0], iP 6 .lenStr [.t 5], iP 3 .id [.t 6]])
 (.seq
 (.seq
 (.ops [ iP 4 .id [kI 0]])
 (.block 0
 (.loop [1, 2, 5, 6, 7, 8, 9, 10, 11, 12, 13, 14, 15, 16, 17, 18, 19, 20, 21, 22, 23, 24] [] f_play_pick_L0)))
 (.seq
 (.ops [ iP 24 .id [.t 3], iP 2 .id [.t 24]])
 .ret))))
def f_play_pick : IFn := ⟨25, 0, [.tmp 2], f_play_pick_B⟩
def f_play_Mod64_B : ICode :=
 (.seq
 (.ops [ iP 4 .id [kI 0]])
 (.seq
 (.ops [ iP 5 .id [.t 0], iP 6 (.convInt .u64) [.t 5], iP 7 .id [.t 1], iP 8 (.convInt .u64) [.t 7], iP 9 (.bin .rem) [.t 6, .t 8], iP 10 (.convInt .i64) [.t 9], iP 4 .id [.t 10]])
 .ret))
def f_play_Mod64 : IFn := ⟨11, 0, [.tmp 4], f_play_Mod64_B⟩
end Go.AM
namespace Go.AM
variable {prog : String → Option IFn}
abbrev Txt := List UInt8
theorem less_total : ∀ (a b : Txt), (!(Op.bytesLess a b)) = (Op.bytesLess b a || b == a)
  | [], [] => rfl
  | [], _ :: _ => rfl
  | _ :: _, [] => rfl
  | a :: x, b :: y => by
    have ih := less_total x y
    simp only [Op.bytesLess]
    by_cases h1 : a < b
    · have h2 : ¬ b < a := fun h => by have := UInt8.lt_iff_toNat_lt.1 h; have := UInt8.lt_iff_toNat_lt.1 h1; omega
      have h3 : b ≠ a := fun h => by rw [h] at h1; exact absurd (UInt8.lt_iff_toNat_lt.1 h1) (by omega)
      simp [h1, h2, h3]
    · by_cases h2 : b < a
      · have h3 : a ≠ b := fun h => by rw [h] at h2; exact absurd (UInt8.lt_iff_toNat_lt.1 h2) (by omega)
        simp [h1, h2, h3]
      · have h3 : a = b := UInt8.toNat_inj.1 (by
          have a1 : ¬ a.toNat < b.toNat := fun h => h1 (UInt8.lt_iff_toNat_lt.2 h)
          have a2 : ¬ b.toNat < a.toNat := fun h => h2 (UInt8.lt_iff_toNat_lt.2 h)
          omega)
        subst h3
        simpa [h1] using ih
end Go.AM
