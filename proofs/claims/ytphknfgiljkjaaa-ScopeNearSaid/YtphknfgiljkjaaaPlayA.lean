import Derived.Test.YtphknfgiljkjaaaLawScopeB
import Derived.Test.YtphknfgiljkjaaaAME
set_option linter.unusedVariables false
set_option linter.unusedSimpArgs false
namespace Go.AM
variable {prog : String → Option IFn}
theorem u120 : Value.int .u8 120 = u8 120 := congrArg (Value.int .u8) (by decide : (120 : Int) = (((120 : UInt8).toNat : Nat) : Int))
def skuAt (m : Nat) : Txt := [97 + UInt8.ofNat m]
def catAt (m : Nat) : Txt := [120 + UInt8.ofNat m]
theorem Sku_spec (hf : prog "haberdash/haberdashplay.Sku" = some f_play_Sku) (hmod : prog "haberdash/haberdashplay.Mod" = some f_play_Mod) {G} {c : Int} :
    Ev prog (.call "haberdash/haberdashplay.Sku" [.v (.int .i64 c)] G) (.ret (.v (str (skuAt (umod c 8)))) G) := by
  refine call_of_fin hf ?_
  simp only [f_play_Sku_B, enter, List.length_cons, List.length_nil, List.replicate, Nat.reduceAdd, Nat.reduceSub, List.cons_append, List.nil_append]
  simp (disch := first | (simp only [DS, reduceCtorEq]; done) | omega) only [WS, St.guard, St.put, evalO, reduceCtorEq, reduceIte, Nat.reduceAdd, Nat.reduceEqDiff]
  rw [WP_p (x := .int .i64 (umod c 8 : Nat)) (by exact Mod_spec hmod 8 rfl (by omega) (by omega)) (by exact trivial)]
  generalize umod c 8 = m
  simp (disch := first | (simp only [DS, reduceCtorEq]; done) | omega) only [WS, St.guard, St.put, evalO, reduceCtorEq, reduceIte, Nat.reduceAdd, Nat.reduceEqDiff, cvU8, u97, addU8]
  refine (WR_eq (build1 (n := 1) (xs := (skuAt m).map byteAV) (by rfl) (by rfl) (by rfl) cells_bytes bytes_lfs)).2 ?_
  simp (disch := first | (simp only [DS, reduceCtorEq]; done) | omega) only [WS, St.guard, St.put, evalO, reduceCtorEq, reduceIte, Nat.reduceAdd, Nat.reduceEqDiff]
  have vb : ∀ L, View ⟨G, some (dBlk ((skuAt m).map byteAV) false false) :: L⟩ (.own (.l 0) 1 0 1 1 (some 1)) 1 (skuAt m).length ((skuAt m).map byteAV) := fun L => own_view1 (j := 0) rfl rfl (by simp)
  refine (WR_eq ((vb _).bytesStr)).2 ?_
  simp (disch := first | (simp only [DS, reduceCtorEq]; done) | omega) only [WS, St.guard, St.put, evalO, reduceCtorEq, reduceIte, Nat.reduceAdd, Nat.reduceEqDiff, fin_tmp, leave_v]
  simp
theorem Category_spec (hf : prog "haberdash/haberdashplay.Category" = some f_play_Category) (hmod : prog "haberdash/haberdashplay.Mod" = some f_play_Mod) {G} {c : Int} :
    Ev prog (.call "haberdash/haberdashplay.Category" [.v (.int .i64 c)] G) (.ret (.v (str (catAt (umod c 3)))) G) := by
  refine call_of_fin hf ?_
  simp only [f_play_Category_B, enter, List.length_cons, List.length_nil, List.replicate, Nat.reduceAdd, Nat.reduceSub, List.cons_append, List.nil_append]
  simp (disch := first | (simp only [DS, reduceCtorEq]; done) | omega) only [WS, St.guard, St.put, evalO, reduceCtorEq, reduceIte, Nat.reduceAdd, Nat.reduceEqDiff]
  rw [WP_p (x := .int .i64 (umod c 3 : Nat)) (by exact Mod_spec hmod 3 rfl (by omega) (by omega)) (by exact trivial)]
  generalize umod c 3 = m
  simp (disch := first | (simp only [DS, reduceCtorEq]; done) | omega) only [WS, St.guard, St.put, evalO, reduceCtorEq, reduceIte, Nat.reduceAdd, Nat.reduceEqDiff, cvU8, u120, addU8]
  refine (WR_eq (build1 (n := 1) (xs := (catAt m).map byteAV) (by rfl) (by rfl) (by rfl) cells_bytes bytes_lfs)).2 ?_
  simp (disch := first | (simp only [DS, reduceCtorEq]; done) | omega) only [WS, St.guard, St.put, evalO, reduceCtorEq, reduceIte, Nat.reduceAdd, Nat.reduceEqDiff]
  have vb : ∀ L, View ⟨G, some (dBlk ((catAt m).map byteAV) false false) :: L⟩ (.own (.l 0) 1 0 1 1 (some 1)) 1 (catAt m).length ((catAt m).map byteAV) := fun L => own_view1 (j := 0) rfl rfl (by simp)
  refine (WR_eq ((vb _).bytesStr)).2 ?_
  simp (disch := first | (simp only [DS, reduceCtorEq]; done) | omega) only [WS, St.guard, St.put, evalO, reduceCtorEq, reduceIte, Nat.reduceAdd, Nat.reduceEqDiff, fin_tmp, leave_v]
  simp
end Go.AM
namespace Go.AM
variable {prog : String → Option IFn}
theorem vBin_mulW {a b : Int} : vBin .mul (.int .i64 a) (.int .i64 b) = some (.int .i64 (IntKind.i64.wrap (a * b))) := by
  simp only [vBin, ne_eq, not_true_eq_false, if_false]
theorem vBin_addW {a b : Int} : vBin .add (.int .i64 a) (.int .i64 b) = some (.int .i64 (IntKind.i64.wrap (a + b))) := by
  simp only [vBin, ne_eq, not_true_eq_false, if_false]
def pickV (s : Txt) : Nat → Int
  | 0 => (s.length : Int)
  | i + 1 => IntKind.i64.wrap (IntKind.i64.wrap (7 * pickV s i) + ((s.getD i 0).toNat : Int))
theorem pick_spec (hf : prog "haberdash/haberdashplay.pick" = some f_play_pick) {G} {s : Txt} :
    Ev prog (.call "haberdash/haberdashplay.pick" [.v (str s)] G) (.ret (.v (.int .i64 (pickV s (min s.length 8)))) G) := by
  refine call_of_fin hf ?_
  simp only [f_play_pick_B, enter, List.length_cons, List.length_nil, List.replicate, Nat.reduceAdd, Nat.reduceSub, List.cons_append, List.nil_append]
  simp (disch := first | (simp only [DS, reduceCtorEq]; done) | omega) only [WS, St.guard, St.put, evalO, reduceCtorEq, reduceIte, Nat.reduceAdd, Nat.reduceEqDiff, lenStr_str]
  refine WC_count (fun i => ⟨f_play_pick_H0 (.v (str s)) (.v (.int .i64 (pickV s i))) (.v (.int .i64 (i : Nat))), ⟨G, []⟩⟩) (min s.length 8) ?_ (fun i hi => ?_) ?_
  · simp only [clear_nil, List.foldl_cons, List.foldl_nil, Option.some.injEq, LS, reduceCtorEq, reduceIte, Nat.reduceAdd]; rfl
  · have hl : (i : Int) < (s.length : Int) := by omega
    have h8 : (i : Int) < 8 := by omega
    have hi2 : i < s.length := by omega
    have hb := (s.getD i 0).toNat_lt
    have hix : ∀ h : Hp, prim h .indexStr [.v (str s), .v (.int .i64 (i : Int))] = some (.v (.int .u8 ((s.getD i 0).toNat : Int)), h) := fun h => indexStr_str hi2
    simp (disch := first | (simp only [DS, reduceCtorEq]; done) | omega) only [f_play_pick_L0, f_play_pick_H0, WS, St.guard, St.put, evalO, reduceCtorEq, reduceIte, Nat.reduceAdd, Nat.reduceEqDiff, lenStr_str, hl, h8, decide_true, hix, vBin_mulW, wrap_i64_nat, vBin_addW]
    have ei : IntKind.i64.wrap ((i : Int) + 1) = ((i + 1 : Nat) : Int) := wrap_i64_nat (n := i + 1) (by omega)
    rw [ei]
    simp only [clear_nil, List.foldl_cons, List.foldl_nil, Option.some.injEq, LS, reduceCtorEq, reduceIte, Nat.reduceAdd]
    rfl
  · by_cases hl : s.length ≤ 8
    · rw [Nat.min_eq_left hl] at *
      simp (disch := first | (simp only [DS, reduceCtorEq]; done) | omega) only [f_play_pick_L0, f_play_pick_H0, WS, St.guard, St.put, evalO, reduceCtorEq, reduceIte, Nat.reduceAdd, Nat.reduceEqDiff, lenStr_str, decide_false, fin_tmp, leave_v]
      simp
    · rw [Nat.min_eq_right (by omega)] at *
      simp (disch := first | (simp only [DS, reduceCtorEq]; done) | omega) only [f_play_pick_L0, f_play_pick_H0, WS, St.guard, St.put, evalO, reduceCtorEq, reduceIte, Nat.reduceAdd, Nat.reduceEqDiff, lenStr_str, show ((8 : Int) < (s.length : Int)) from by omega, show ¬ ((8 : Int) < 8) from by omega, decide_true, decide_false, fin_tmp, leave_v]
      simp
end Go.AM
namespace Go.AM
variable {prog : String → Option IFn}
def hit (n i : Nat) (xs : List Txt) : Bool := (xs.take 4).any fun s => umod (pickV s (min s.length 8)) n == i
def someL (xs : List Txt) (most n : Nat) (nm : Nat → Txt) : Nat → List Txt
  | 0 => []
  | i + 1 => if hit n i xs = true ∧ (someL xs most n nm i).length < most then someL xs most n nm i ++ [nm i] else someL xs most n nm i
theorem someL_len {xs most n nm} : ∀ i, (someL xs most n nm i).length ≤ i
  | 0 => by simp [someL]
  | i + 1 => by
    have := someL_len (xs := xs) (most := most) (n := n) (nm := nm) i
    unfold someL
    split
    · simp; omega
    · omega
theorem hit_none {n i : Nat} {xs : List Txt} (h : ∀ (j : Nat) s, j < 4 → xs[j]? = some s → umod (pickV s (min s.length 8)) n ≠ i) : hit n i xs = false := by
  unfold hit
  rw [List.any_eq_false]
  intro s hs
  obtain ⟨j, hj⟩ := List.mem_iff_getElem?.1 hs
  rw [List.getElem?_take] at hj
  split at hj
  · rename_i h4
    simpa using h j s h4 hj
  · cases hj
theorem hit_one {n i j : Nat} {xs : List Txt} {s : Txt} (h4 : j < 4) (hj : xs[j]? = some s) (h : umod (pickV s (min s.length 8)) n = i) : hit n i xs = true := by
  unfold hit
  rw [List.any_eq_true]
  refine ⟨s, List.mem_of_getElem? (i := j) ?_, by simpa using h⟩
  rw [List.getElem?_take, if_pos h4, hj]
end Go.AM
namespace Go.AM
variable {prog : String → Option IFn}
def someE (a fv : AV) (most kinds : Nat) (zs : List Txt) (k : Nat) : List AV := f_play_some_H1 a (.v (.int .i64 (most : Nat))) (.v (.int .i64 (kinds : Nat))) fv (.own (.l 0) zs.length 0 zs.length 1 none) (.v (.int .i64 (k : Nat)))
def someB (zs : List Txt) : Option Blk := some (dBlk (sEnc.row zs) true (decide (zs.length = 0)))
theorem some_spec (hf : prog "haberdash/haberdashplay.some" = some f_play_some) (hpick : prog "haberdash/haberdashplay.pick" = some f_play_pick) (hmod : prog "haberdash/haberdashplay.Mod" = some f_play_Mod)
    {G a g} {xs : List Txt} {most kinds : Nat} (nm : Nat → Txt) (v : ∀ L, TView sEnc ⟨G, L⟩ a xs) (hk0 : 0 < kinds) (hk : kinds < 2 ^ 40) (hm : most < 2 ^ 62) (hxl : xs.length ≤ maxLen)
    (hnm : ∀ {G} (k : Nat), k < kinds → Ev prog (.call g [.v (.int .i64 (k : Int))] G) (.ret (.v (str (nm k))) G)) :
    Ev prog (.call "haberdash/haberdashplay.some" [a, .v (.int .i64 (most : Nat)), .v (.int .i64 (kinds : Nat)), .fn g [] []] G)
      (.ret (.own (.o G.length) (someL xs most kinds nm kinds).length 0 (someL xs most kinds nm kinds).length 1 none) (G ++ [someB (someL xs most kinds nm kinds)])) := by
  have hml : xs.length ≤ 9223372036854775807 := hxl
  have na : ∀ ks, noRef ks a = true := fun ks => noRef_out (View.out (v []))
  have na2 : ∀ ks, noRef ks (.fn g [] []) = true := fun ks => rfl
  refine call_of_fin hf ?_
  simp only [f_play_some_B, enter, List.length_cons, List.length_nil, List.replicate, Nat.reduceAdd, Nat.reduceSub, List.cons_append, List.nil_append]
  simp (disch := first | (simp only [DS, reduceCtorEq]; done) | omega) only [WS, St.guard, St.put, evalO, reduceCtorEq, reduceIte, Nat.reduceAdd, Nat.reduceEqDiff]
  refine (WR_eq (show prim ⟨G, [none, none, none]⟩ (.nilv 0 1) [.v (.slice none 0 0)] = some (.own (.l 0) 0 0 0 1 none, ⟨G, [someB [], none, none]⟩) from rfl)).2 ?_
  simp (disch := first | (simp only [DS, reduceCtorEq]; done) | omega) only [WS, St.guard, St.put, evalO, reduceCtorEq, reduceIte, Nat.reduceAdd, Nat.reduceEqDiff]
  refine WC_count (fun i => ⟨someE a (.fn g [] []) most kinds (someL xs most kinds nm i) i, ⟨G, [someB (someL xs most kinds nm i), none, none]⟩⟩) kinds ?_ (fun i hi => ?_) ?_
  · refine clear_fre (by simp only [clear_nil, List.foldl_cons, List.foldl_nil, Option.some.injEq, LS, reduceCtorEq, reduceIte, Nat.reduceAdd]; rfl) (by rfl) (by simp only [someE, f_play_some_H1, f_play_some_H0, List.all_cons, List.all_nil, noRef_v, noRef_dead, noRef_own, noRef_ptr, noRef_nil, Bool.and_true, Bool.true_and, Bool.and_self, List.contains_cons, List.contains_nil, Bool.or_false, Nat.reduceBEq, Bool.not_false, na, na2]) (by rfl)
  · have hlt' : (i : Int) < (kinds : Int) := by omega
    simp (disch := first | (simp only [DS, reduceCtorEq]; done) | omega) only [f_play_some_L1, someE, f_play_some_H1, WS, St.guard, St.put, evalO, reduceCtorEq, reduceIte, Nat.reduceAdd, Nat.reduceEqDiff, hlt', decide_true]
    generalize hzs : someL xs most kinds nm i = zs
    have hzl : zs.length ≤ i := by rw [← hzs]; exact someL_len i
    refine WC_countP (fun j => ∀ (m : Nat) x, m < j → xs[m]? = some x → umod (pickV x (min x.length 8)) kinds ≠ i)
      (fun j => ⟨f_play_some_H0 a (.v (.int .i64 (most : Nat))) (.v (.int .i64 (kinds : Nat))) (.fn g [] []) (.own (.l 0) zs.length 0 zs.length 1 none) (.v (.int .i64 (i : Nat))) (.v (.int .i64 (j : Nat))), ⟨G, [someB zs, none, none]⟩⟩)
      (if zs.length < most then min xs.length 4 else 0) ?_ (fun m x h => by omega) (fun j hj hp => ?_) (fun hp => ?_)
    · exact clear_fre (by simp only [clear_nil, List.foldl_cons, List.foldl_nil, Option.some.injEq, LS, reduceCtorEq, reduceIte, Nat.reduceAdd]; rfl) (by rfl) (by simp only [someE, f_play_some_H1, f_play_some_H0, List.all_cons, List.all_nil, noRef_v, noRef_dead, noRef_own, noRef_ptr, noRef_nil, Bool.and_true, Bool.true_and, Bool.and_self, List.contains_cons, List.contains_nil, Bool.or_false, Nat.reduceBEq, Bool.not_false, na, na2]) (by rfl)
    · have hmost : zs.length < most := by
        by_cases h : zs.length < most
        · exact h
        · rw [if_neg h] at hj; omega
      rw [if_pos hmost] at hj
      have hlt1 : (j : Int) < (xs.length : Int) := by omega
      have hlt2 : (j : Int) < 4 := by omega
      have hlt3 : (zs.length : Int) < (most : Int) := by omega
      have hjx : j < xs.length := by omega
      have vi := fun L => (sView_at (v L) hjx).1
      have vl := fun L => (sView_at (v L) hjx).2
      have gd : ∀ b1 b2, Good ⟨G, [someB zs, b1, b2]⟩ → True := fun _ _ _ => trivial
      simp (disch := first | (simp only [DS, reduceCtorEq]; done) | omega) only [f_play_some_L0, f_play_some_H0, WS, St.guard, St.put, evalO, reduceCtorEq, reduceIte, Nat.reduceAdd, Nat.reduceEqDiff, (v _).lenSlice, hlt1, hlt2, hlt3, decide_true, vi, vl, goInt]
      rw [WP_p (x := .int .i64 (pickV xs[j] (min xs[j].length 8))) (by exact pick_spec hpick) (by exact ⟨dBlk_good, trivial⟩)]
      simp (disch := first | (simp only [DS, reduceCtorEq]; done) | omega) only [WS, St.guard, St.put, evalO, reduceCtorEq, reduceIte, Nat.reduceAdd, Nat.reduceEqDiff]
      rw [WP_p (x := .int .i64 (umod (pickV xs[j] (min xs[j].length 8)) kinds : Nat)) (by exact Mod_spec hmod kinds rfl hk0 (by omega)) (by exact ⟨dBlk_good, trivial⟩)]
      simp (disch := first | (simp only [DS, reduceCtorEq]; done) | omega) only [WS, St.guard, St.put, evalO, reduceCtorEq, reduceIte, Nat.reduceAdd, Nat.reduceEqDiff]
      by_cases hit' : umod (pickV xs[j] (min xs[j].length 8)) kinds = i
      · have e : ((umod (pickV xs[j] (min xs[j].length 8)) kinds : Int) == (i : Int)) = true := by rw [beq_iff_eq]; omega
        simp (disch := first | (simp only [DS, reduceCtorEq]; done) | omega) only [WS, St.guard, St.put, evalO, reduceCtorEq, reduceIte, Nat.reduceAdd, Nat.reduceEqDiff, e]
        rw [WP_fn (x := str (nm i)) (by exact hnm i hi) (by exact ⟨dBlk_good, trivial⟩)]
        simp (disch := first | (simp only [DS, reduceCtorEq]; done) | omega) only [WS, St.guard, St.put, evalO, reduceCtorEq, reduceIte, Nat.reduceAdd, Nat.reduceEqDiff]
        refine (WR_eq (build1 (n := 1) (xs := [.v (str (nm i))]) (by rfl) (by rfl) (by rfl) (by intro x hx; simp at hx; subst hx; rfl) (by rfl))).2 ?_
        simp (disch := first | (simp only [DS, reduceCtorEq]; done) | omega) only [WS, St.guard, St.put, evalO, reduceCtorEq, reduceIte, Nat.reduceAdd, Nat.reduceEqDiff]
        refine (WR_eq (append_one (k := 0) (j := 0) (m := 1) (len := zs.length) (x := .v (str (nm i))) (cells := sEnc.row zs) (by rfl) row_len1 (by rfl) (by rfl) (by unfold room; omega))).2 ?_
        have hnext : someL xs most kinds nm (i + 1) = zs ++ [nm i] := by
          rw [someL, if_pos ⟨hit_one (j := j) (by omega) (List.getElem?_eq_getElem hjx) hit', by rw [hzs]; exact hmost⟩, hzs]
        have eB : someB (zs ++ [nm i]) = some (dBlk (sEnc.row zs ++ [.v (str (nm i))]) true false) := by
          unfold someB; rw [sEnc.row_append, decide_eq_false (by simp)]; rfl
        have eL : (zs ++ [nm i]).length = zs.length + 1 := by simp
        simp (disch := first | (simp only [DS, reduceCtorEq]; done) | omega) only [WS, St.guard, St.put, evalO, reduceCtorEq, reduceIte, Nat.reduceAdd, Nat.reduceEqDiff, vBin_add_i64, hnext]
        refine clear_fre (by simp only [clear_nil, List.foldl_cons, List.foldl_nil, Option.some.injEq, LS, reduceCtorEq, reduceIte, Nat.reduceAdd, someE, f_play_some_H1, eL]; rfl) (by rw [eB]; rfl) (by simp only [someE, f_play_some_H1, f_play_some_H0, List.all_cons, List.all_nil, noRef_v, noRef_dead, noRef_own, noRef_ptr, noRef_nil, Bool.and_true, Bool.true_and, Bool.and_self, List.contains_cons, List.contains_nil, Bool.or_false, Nat.reduceBEq, Bool.not_false, na, na2]) (by rfl)
      · have e : ((umod (pickV xs[j] (min xs[j].length 8)) kinds : Int) == (i : Int)) = false := by rw [beq_eq_false_iff_ne]; omega
        simp (disch := first | (simp only [DS, reduceCtorEq]; done) | omega) only [WS, St.guard, St.put, evalO, reduceCtorEq, reduceIte, Nat.reduceAdd, Nat.reduceEqDiff, e, vBin_add_i64]
        refine ⟨clear_fre (by simp only [clear_nil, List.foldl_cons, List.foldl_nil, Option.some.injEq, LS, reduceCtorEq, reduceIte, Nat.reduceAdd]; rfl) (by rfl) (by simp only [someE, f_play_some_H1, f_play_some_H0, List.all_cons, List.all_nil, noRef_v, noRef_dead, noRef_own, noRef_ptr, noRef_nil, Bool.and_true, Bool.true_and, Bool.and_self, List.contains_cons, List.contains_nil, Bool.or_false, Nat.reduceBEq, Bool.not_false, na, na2]) (by rfl), ?_⟩
        intro m x hm hx
        by_cases hmj : m < j
        · exact hp m x hmj hx
        · obtain rfl : m = j := by omega
          rw [List.getElem?_eq_getElem hjx] at hx; cases hx
          exact hit'
    · have hnext : someL xs most kinds nm (i + 1) = zs := by
        rw [someL, if_neg, hzs]
        rintro ⟨h1, h2⟩
        rw [hzs] at h2
        rw [if_pos h2] at hp
        rw [hit_none fun m x h4 hx => hp m x (by have := lt_of_get hx; omega) hx] at h1
        cases h1
      by_cases hmost : zs.length < most
      · rw [if_pos hmost] at hp ⊢
        have hlt3 : (zs.length : Int) < (most : Int) := by omega
        by_cases h4 : xs.length ≤ 4
        · rw [Nat.min_eq_left h4] at hp ⊢
          simp (disch := first | (simp only [DS, reduceCtorEq]; done) | omega) only [f_play_some_L0, f_play_some_H0, WS, St.guard, St.put, evalO, reduceCtorEq, reduceIte, Nat.reduceAdd, Nat.reduceEqDiff, (v _).lenSlice, decide_false, decide_true, vBin_add_i64, hnext]
          refine clear_fre (by simp only [clear_nil, List.foldl_cons, List.foldl_nil, Option.some.injEq, LS, reduceCtorEq, reduceIte, Nat.reduceAdd, someE, f_play_some_H1]; rfl) (by rfl) (by simp only [someE, f_play_some_H1, f_play_some_H0, List.all_cons, List.all_nil, noRef_v, noRef_dead, noRef_own, noRef_ptr, noRef_nil, Bool.and_true, Bool.true_and, Bool.and_self, List.contains_cons, List.contains_nil, Bool.or_false, Nat.reduceBEq, Bool.not_false, na, na2]) (by rfl)
        · rw [Nat.min_eq_right (by omega)] at hp ⊢
          have h5 : (4 : Int) < (xs.length : Int) := by omega
          simp (disch := first | (simp only [DS, reduceCtorEq]; done) | omega) only [f_play_some_L0, f_play_some_H0, WS, St.guard, St.put, evalO, reduceCtorEq, reduceIte, Nat.reduceAdd, Nat.reduceEqDiff, (v _).lenSlice, decide_false, decide_true, vBin_add_i64, hnext, h5]
          refine clear_fre (by simp only [clear_nil, List.foldl_cons, List.foldl_nil, Option.some.injEq, LS, reduceCtorEq, reduceIte, Nat.reduceAdd, someE, f_play_some_H1]; rfl) (by rfl) (by simp only [someE, f_play_some_H1, f_play_some_H0, List.all_cons, List.all_nil, noRef_v, noRef_dead, noRef_own, noRef_ptr, noRef_nil, Bool.and_true, Bool.true_and, Bool.and_self, List.contains_cons, List.contains_nil, Bool.or_false, Nat.reduceBEq, Bool.not_false, na, na2]) (by rfl)
      · rw [if_neg hmost] at hp ⊢
        have hlt3 : ¬ ((zs.length : Int) < (most : Int)) := by omega
        by_cases h0 : xs.length = 0
        · have h5 : ¬ ((0 : Int) < (xs.length : Int)) := by omega
          simp (disch := first | (simp only [DS, reduceCtorEq]; done) | omega) only [f_play_some_L0, f_play_some_H0, WS, St.guard, St.put, evalO, reduceCtorEq, reduceIte, Nat.reduceAdd, Nat.reduceEqDiff, (v _).lenSlice, decide_false, decide_true, vBin_add_i64, hnext, h5]
          refine clear_fre (by simp only [clear_nil, List.foldl_cons, List.foldl_nil, Option.some.injEq, LS, reduceCtorEq, reduceIte, Nat.reduceAdd, someE, f_play_some_H1]; rfl) (by rfl) (by simp only [someE, f_play_some_H1, f_play_some_H0, List.all_cons, List.all_nil, noRef_v, noRef_dead, noRef_own, noRef_ptr, noRef_nil, Bool.and_true, Bool.true_and, Bool.and_self, List.contains_cons, List.contains_nil, Bool.or_false, Nat.reduceBEq, Bool.not_false, na, na2]) (by rfl)
        · have h5 : ((0 : Int) < (xs.length : Int)) := by omega
          have h6 : ((0 : Int) < 4) := by omega
          simp (disch := first | (simp only [DS, reduceCtorEq]; done) | omega) only [f_play_some_L0, f_play_some_H0, WS, St.guard, St.put, evalO, reduceCtorEq, reduceIte, Nat.reduceAdd, Nat.reduceEqDiff, (v _).lenSlice, decide_false, decide_true, vBin_add_i64, hnext, h5, h6, hlt3, lenOf_own, goInt]
          refine clear_fre (by simp only [clear_nil, List.foldl_cons, List.foldl_nil, Option.some.injEq, LS, reduceCtorEq, reduceIte, Nat.reduceAdd, someE, f_play_some_H1]; rfl) (by rfl) (by simp only [someE, f_play_some_H1, f_play_some_H0, List.all_cons, List.all_nil, noRef_v, noRef_dead, noRef_own, noRef_ptr, noRef_nil, Bool.and_true, Bool.true_and, Bool.and_self, List.contains_cons, List.contains_nil, Bool.or_false, Nat.reduceBEq, Bool.not_false, na, na2]) (by rfl)
  · simp (disch := first | (simp only [DS, reduceCtorEq]; done) | omega) only [f_play_some_L1, someE, f_play_some_H1, WS, St.guard, St.put, evalO, reduceCtorEq, reduceIte, Nat.reduceAdd, Nat.reduceEqDiff, decide_false, fin_tmp, or_true]
    exact leave_own1 (by rfl) (by rfl)
end Go.AM
namespace Go.AM
variable {prog : String → Option IFn}
structure PlayBase (prog : String → Option IFn) : Prop where
  pick : prog "haberdash/haberdashplay.pick" = some f_play_pick
  mod : prog "haberdash/haberdashplay.Mod" = some f_play_Mod
  sku : prog "haberdash/haberdashplay.Sku" = some f_play_Sku
  cat : prog "haberdash/haberdashplay.Category" = some f_play_Category
structure PlayLib (prog : String → Option IFn) : Prop extends PlayBase prog where
  somef : prog "haberdash/haberdashplay.some" = some f_play_some
  scope : prog "haberdash/haberdashplay.Scope" = some f_play_Scope
def skuN (k : Nat) : Txt := skuAt (umod (k : Int) 8)
def catN (k : Nat) : Txt := catAt (umod (k : Int) 3)
def pSkus (n : List Txt) : List Txt := someL n 3 8 skuN 8
def pCats (c : List Txt) : List Txt := someL c 2 3 catN 3
theorem Scope_spec (H : PlayLib prog) {G a b} {n c : List Txt} (v : ∀ L, TView sEnc ⟨G, L⟩ a n) (w : ∀ L, TView sEnc ⟨G, L⟩ b c) (hn : n.length ≤ maxLen) (hc : c.length ≤ maxLen) :
    Ev prog (.call "haberdash/haberdashplay.Scope" [.agg [a, b]] G)
      (.ret (.agg [.own (.o (G.length + 1)) (pSkus n).length 0 (pSkus n).length 1 none, .own (.o G.length) (pCats c).length 0 (pCats c).length 1 none]) (G ++ [someB (pCats c), someB (pSkus n)])) := by
  refine call_of_fin H.scope ?_
  have gd : ∀ d b1 b2 b3, (∀ B, b1 = some B → B.labs = []) → (∀ B, b2 = some B → B.labs = []) → (∀ B, b3 = some B → B.labs.all (refLt G.length 3) = true) → Good ⟨G, [some (sBlk [a, b] d), b1, b2, b3]⟩ := fun d b1 b2 b3 h1 h2 h3 =>
    ⟨sBlk_good (pair_labs (View.out (v [])) (View.out (w []))), goodL_opt (fun B h => by rw [h1 B h]; rfl) (goodL_opt (fun B h => by rw [h2 B h]; rfl) (goodL_opt h3 trivial))⟩
  simp only [f_play_Scope_B, enter, List.length_cons, List.length_nil, List.replicate, Nat.reduceAdd, Nat.reduceSub, List.cons_append, List.nil_append]
  simp (disch := first | (simp only [DS, reduceCtorEq]; done) | omega) only [WS, St.guard, St.put, evalO, reduceCtorEq, reduceIte, Nat.reduceAdd, Nat.reduceEqDiff, new_s, virtBlk_eq, box_s, box_vs, box_vi, box_vb, px_load_l, px_load_o, loadB_s, storeX, storeB_s, alloc_s, lay, whole, Option.join_some, List.drop_zero, List.drop_succ_cons, List.take_succ_cons, List.take_zero, List.drop_nil, List.nil_append, List.cons_append, Nat.reduceLeDiff, Nat.zero_add, and_self, and_true, cells_int, cells_bool, cells_str, cells_string, cells_agg, cells_own, cells_ro, cells_ptr, cells_nil, AV.lf.lfs, AV.lf, px_build, fills, build_string, build_str, build_int, WDR_some, Nat.reduceLeDiff, Nat.le_refl, Bool.and_self]
  have g3 : ∀ B, some (sBlk [.v (.slice none 0 0), .v (.slice none 0 0)] true) = some B → B.labs.all (refLt G.length 3) = true := by intro B h; cases h; rfl
  refine WDP_news (by exact some_spec (most := 3) (kinds := 8) H.somef H.pick H.mod skuN ((v _).into) (by omega) (by omega) (by omega) hn fun k _ => Sku_spec H.sku H.mod) (data1 dBlk_l) rfl (by decide) rfl rfl (by exact gd _ none none _ (by simp) (by simp) g3)
    (by simp only [AV.ren, down_into0]; rfl) ?_
  simp (disch := first | (simp only [DS, reduceCtorEq]; done) | omega) only [WS, St.guard, St.put, evalO, reduceCtorEq, reduceIte, Nat.reduceAdd, Nat.reduceEqDiff, new_s, virtBlk_eq, box_s, box_vs, box_vi, box_vb, px_load_l, px_load_o, loadB_s, storeX, storeB_s, alloc_s, lay, whole, Option.join_some, List.drop_zero, List.drop_succ_cons, List.take_succ_cons, List.take_zero, List.drop_nil, List.nil_append, List.cons_append, Nat.reduceLeDiff, Nat.zero_add, and_self, and_true, cells_int, cells_bool, cells_str, cells_string, cells_agg, cells_own, cells_ro, cells_ptr, cells_nil, AV.lf.lfs, AV.lf, px_build, fills, build_string, build_str, build_int, WDR_some, Nat.reduceLeDiff, Nat.le_refl, Bool.and_self, putAll]
  rw [WDP_loadU (by simp) (by exact gd _ _ none _ dBlk_l (by simp) g3)]
  simp (disch := first | (simp only [DS, reduceCtorEq]; done) | omega) only [WS, St.guard, St.put, evalO, reduceCtorEq, reduceIte, Nat.reduceAdd, Nat.reduceEqDiff, new_s, virtBlk_eq, box_s, box_vs, box_vi, box_vb, px_load_l, px_load_o, loadB_s, storeX, storeB_s, alloc_s, lay, whole, Option.join_some, List.drop_zero, List.drop_succ_cons, List.take_succ_cons, List.take_zero, List.drop_nil, List.nil_append, List.cons_append, Nat.reduceLeDiff, Nat.zero_add, and_self, and_true, cells_int, cells_bool, cells_str, cells_string, cells_agg, cells_own, cells_ro, cells_ptr, cells_nil, AV.lf.lfs, AV.lf, px_build, fills, build_string, build_str, build_int, WDR_some, Nat.reduceLeDiff, Nat.le_refl, Bool.and_self]
  refine WDP_news (by exact some_spec (most := 2) (kinds := 3) H.somef H.pick H.mod catN ((w _).into) (by omega) (by omega) (by omega) hc fun k _ => Category_spec H.cat H.mod) (data1 dBlk_l) rfl (by decide) rfl rfl (by exact gd _ _ none _ dBlk_l (by simp) g3)
    (by simp only [AV.ren, down_into0]; rfl) ?_
  simp (disch := first | (simp only [DS, reduceCtorEq]; done) | omega) only [WS, St.guard, St.put, evalO, reduceCtorEq, reduceIte, Nat.reduceAdd, Nat.reduceEqDiff, new_s, virtBlk_eq, box_s, box_vs, box_vi, box_vb, px_load_l, px_load_o, loadB_s, storeX, storeB_s, alloc_s, lay, whole, Option.join_some, List.drop_zero, List.drop_succ_cons, List.take_succ_cons, List.take_zero, List.drop_nil, List.nil_append, List.cons_append, Nat.reduceLeDiff, Nat.zero_add, and_self, and_true, cells_int, cells_bool, cells_str, cells_string, cells_agg, cells_own, cells_ro, cells_ptr, cells_nil, AV.lf.lfs, AV.lf, px_build, fills, build_string, build_str, build_int, WDR_some, Nat.reduceLeDiff, Nat.le_refl, Bool.and_self, putAll]
  refine WDP_er (by exact gd _ _ _ _ dBlk_l dBlk_l g3) rfl ?_
  simp (disch := first | (simp only [DS, reduceCtorEq]; done) | omega) only [WS, St.guard, St.put, evalO, reduceCtorEq, reduceIte, Nat.reduceAdd, Nat.reduceEqDiff, new_s, virtBlk_eq, box_s, box_vs, box_vi, box_vb, px_load_l, px_load_o, loadB_s, storeX, storeB_s, alloc_s, lay, whole, Option.join_some, List.drop_zero, List.drop_succ_cons, List.take_succ_cons, List.take_zero, List.drop_nil, List.nil_append, List.cons_append, Nat.reduceLeDiff, Nat.zero_add, and_self, and_true, cells_int, cells_bool, cells_str, cells_string, cells_agg, cells_own, cells_ro, cells_ptr, cells_nil, AV.lf.lfs, AV.lf, px_build, fills, build_string, build_str, build_int, WDR_some, Nat.reduceLeDiff, Nat.le_refl, Bool.and_self, WDX_some, reduceIte, if_true, if_false, Bool.and_true, Bool.true_and, true_and, Bool.false_eq_true, false_or, true_or, Hp.over, AM.over, over_nil, List.foldl_cons, List.foldl_nil, List.set_cons_zero, List.set_cons_succ, List.getElem?_cons_zero, List.getElem?_cons_succ, Option.join_some, List.length_cons, List.length_nil, Prim.sites, List.cons_append, List.nil_append]
  refine ⟨⟨rfl, ?_⟩, ?_⟩
  · exact gd _ _ _ _ dBlk_l dBlk_l (by intro B h; cases h; exact sBlk_good (by simp [AV.labs.labss, AV.labs, refLt]))
  simp (disch := first | (simp only [DS, reduceCtorEq]; done) | omega) only [WS, St.guard, St.put, evalO, reduceCtorEq, reduceIte, Nat.reduceAdd, Nat.reduceEqDiff, new_s, virtBlk_eq, box_s, box_vs, box_vi, box_vb, px_load_l, px_load_o, loadB_s, storeX, storeB_s, alloc_s, lay, whole, Option.join_some, List.drop_zero, List.drop_succ_cons, List.take_succ_cons, List.take_zero, List.drop_nil, List.nil_append, List.cons_append, Nat.reduceLeDiff, Nat.zero_add, and_self, and_true, cells_int, cells_bool, cells_str, cells_string, cells_agg, cells_own, cells_ro, cells_ptr, cells_nil, AV.lf.lfs, AV.lf, px_build, fills, build_string, build_str, build_int, WDR_some, Nat.reduceLeDiff, Nat.le_refl, Bool.and_self, fin_cell, false_or, or_true]
  rfl
end Go.AM
