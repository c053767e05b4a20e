import Derived.Test.YtphknfgiljkjaaaScopeB
import Derived.Test.YtphknfgiljkjaaaLawScope
set_option linter.unusedVariables false
set_option linter.unusedSimpArgs false
namespace Go.AM
variable {prog : String → Option IFn}
theorem Mod_spec (hf : prog "haberdash/haberdashplay.Mod" = some f_play_Mod) {G} {c z : Int} (n : Nat) (hz : z = n) (h0 : 0 < n) (hn : n < 9223372036854775808) :
    Ev prog (.call "haberdash/haberdashplay.Mod" [.v (.int .i64 c), .v (.int .i64 z)] G) (.ret (.v (.int .i64 (umod c n : Nat))) G) := by
  refine call_of_fin hf ?_
  have := umod_lt (c := c) h0
  simp only [f_play_Mod_B, enter, List.length_cons, List.length_nil, List.replicate, Nat.reduceAdd, Nat.reduceSub, List.cons_append, List.nil_append]
  simp (disch := first | (simp only [DS, reduceCtorEq]; done) | omega) only [WS, St.guard, St.put, evalO, reduceCtorEq, reduceIte, Nat.reduceAdd, Nat.reduceEqDiff]
  rw [vRem_u64 n hz h0 hn]
  simp (disch := first | (simp only [DS, reduceCtorEq]; done) | omega) only [WS, St.guard, St.put, evalO, reduceCtorEq, reduceIte, Nat.reduceAdd, Nat.reduceEqDiff, wrap_i64_nat, fin_tmp, leave_v]
  simp
theorem cvU8 {n : Nat} {h : Hp} : prim h (.convInt .u8) [.v (.int .i64 (n : Int))] = some (.v (u8 (UInt8.ofNat n)), h) := by
  rw [px_convInt]
  have : IntKind.u8.wrap (n : Int) = ((UInt8.ofNat n).toNat : Int) := by
    rw [UInt8.toNat_ofNat']; simp [IntKind.wrap, IntKind.bits, IntKind.signed]
  rw [this]; rfl
theorem addU8 {a b : UInt8} : vBin .add (u8 a) (u8 b) = some (u8 (a + b)) := by
  simp only [vBin, u8, ne_eq, not_true_eq_false, if_false, Option.some.injEq, Value.int.injEq, true_and]
  rw [UInt8.toNat_add]; simp [IntKind.wrap, IntKind.bits, IntKind.signed]
end Go.AM
namespace Go.AM
variable {prog : String → Option IFn}
theorem u97 : Value.int .u8 97 = u8 97 := congrArg (Value.int .u8) (by decide : (97 : Int) = (((97 : UInt8).toNat : Nat) : Int))
theorem clear_fre {s : St} {clr fre : List Nat} {env : List AV} {L : List (Option Blk)} (h1 : clr.foldl (fun e t => e.set t .dead) s.env = env) (h2 : fre.foldl (fun L k => L.set k none) s.h.L = L)
    (h3 : env.all (noRef fre) = true) (h4 : L.all (blkNoRef fre) = true) : clear s clr fre = some ⟨env, ⟨s.h.G, L⟩⟩ := by
  subst h1; subst h2
  unfold clear
  exact if_pos ⟨h3, h4⟩
theorem row_len1 {xs : List Txt} : (sEnc.row xs).length = xs.length := by rw [sEnc.row_len, show sEnc.esz = 1 from rfl, Nat.mul_one]
end Go.AM
