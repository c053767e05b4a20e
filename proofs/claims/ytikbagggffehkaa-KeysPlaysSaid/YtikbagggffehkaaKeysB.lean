import Derived.Test.YtikbagggffehkaaKeysA
import Derived.Test.YtikbagggffehkaaPackC
set_option linter.unusedVariables false
set_option linter.unusedSimpArgs false
namespace Go.AM
variable {prog : String → Option IFn}
def cloneY (x : Byt) : Byt := if x.nl then noB else ⟨x.b, .ro false 1 x.b.length (x.b.map byteAV), .inr ⟨false, rfl, fun h => by cases h⟩⟩
theorem cloneY_b (x : Byt) : (cloneY x).b = x.b := by
  unfold cloneY
  split
  · rename_i h; exact (x.nil h).symm
  · rfl
def cloneS (x : SeenD) : SeenD := ⟨x.k, cloneY x.q, cloneY x.t⟩
theorem bcl_op (hf : prog "bytes.Clone" = some f_bytes_Clone) {G L : List (Option Blk)} {site : Nat} (x : Byt) (hr : x.b.length ≤ room) (hL : L[site]? = some none) (hg : Good ⟨G, L⟩) :
    ∃ b B B2, Ev prog (.op (.call "bytes.Clone" [site]) [x.a] ⟨G, L⟩) (.val b ⟨G, L.set site B⟩) ∧ b.cellsOf = some [b] ∧ (∀ L' : List (Option Blk), L'[site]? = some B → (⟨G, L'⟩ : Hp).freeze b = some ((cloneY x).a, ⟨G, L'.set site B2⟩)) ∧
      (∀ c, B = some c → c.labs = []) ∧ ∀ c, B2 = some c → c.labs = [] := by
  have hfr : [site].all (free L) = true := by simp [free_of_get hL]
  have ea : [x.a].map (AV.ren (up (⟨G, L⟩ : Hp).G.length)) = [x.a] := by simp only [List.map_cons, List.map_nil, x.ren]
  cases hnl : x.nl with
  | true =>
    have ec : (cloneY x).a = .v (.slice none 0 0) := by unfold cloneY; rw [hnl]; rfl
    refine ⟨.v (.slice none 0 0), none, none, ?_, rfl, fun L' h => ?_, fun c h => (by cases h), fun c h => (by cases h)⟩
    · rw [set_none hL]
      exact op_none (h := ⟨G, L⟩) (by rw [ea]; exact CloneNil hf fun L => by rw [x.isNil, hnl]) (by simp) hfr hg
    · rw [set_none h, ec]; rfl
  | false =>
    have ec : (cloneY x).a = .ro false 1 x.b.length (x.b.map byteAV) := by unfold cloneY; rw [hnl]; rfl
    by_cases h0 : x.b.length = 0
    · have hb : x.b = [] := List.eq_nil_of_length_eq_zero h0
      refine ⟨.own (.l site) 0 0 0 1 (some 0), some (dBlk [] false false), some { (dBlk [] false false) with wr := false }, ?_, rfl, fun L' h => ?_, dBlk_l, fun c h => (by cases h; rfl)⟩
      · exact op_news (h := ⟨G, L⟩) (Bs := [some (dBlk [] false false)]) (by rw [ea]; exact Clone0 hf (fun L' => by have h2 := x.view (⟨(⟨G, L⟩ : Hp).into, L'⟩ : Hp); rw [hb] at h2; exact h2) fun L => by rw [x.isNil, hnl]) (data1 dBlk_l) rfl (by simp) hfr hg ren_own1
      · rw [ec, hb]
        simp only [Hp.freeze, Hp.get, h, Option.join_some]
        rfl
    · refine ⟨.own (.l site) x.b.length 0 x.b.length 1 none, some (dBlk (x.b.map byteAV) true false), some { (dBlk (x.b.map byteAV) true false) with wr := false }, ?_, rfl, fun L' h => ?_, dBlk_l, fun c h => (by cases h; rfl)⟩
      · exact op_news (h := ⟨G, L⟩) (Bs := [some (dBlk (x.b.map byteAV) true false)]) (by rw [ea]; exact CloneC hf (fun L => x.view _) (fun L => by rw [x.isNil, hnl]) (by omega) hr) (data1 dBlk_l) rfl (by simp) hfr hg ren_own1
      · rw [ec]
        simp only [Hp.freeze, Hp.get, h, Option.join_some]
        rw [if_pos ⟨by simp [dBlk], rfl⟩]
        simp only [dBlk_cells, List.drop_zero, Nat.mul_one, Hp.put]
        rw [List.take_of_length_le (by simp)]
        rfl
theorem store_frz {G L : List (Option Blk)} {j n off site : Nat} {b c : AV} {B2 : Option Blk} {cells : List AV} {o v : Bool} (hL : L[j]? = some (some (dBlk cells o v))) (hj : j ≠ site) (hb : b.cellsOf = some [b]) (hf : (⟨G, L⟩ : Hp).freeze b = some (c, ⟨G, L.set site B2⟩))
    (hn : cells.length = n) (ho : off < n) (hc : c.lf = true) : prim ⟨G, L⟩ (.store 1 true) [.ptr (.l j) n off, b] = some (.v undef, ⟨G, (L.set site B2).set j (some (dBlk (cells.set off c) o v))⟩) := by
  simp only [prim, hb, Option.bind_some, Hp.mayFreeze, if_true, Hp.freezes, hf, Option.map_some, Hp.get, List.getElem?_set, if_neg (Ne.symm hj), hL, Option.join_some, dBlk_cells]
  have hok : okPut (.l j) [c] = true := rfl
  refine (if_pos ⟨hn, rfl, rfl, by omega, hok⟩).trans ?_
  have hlf : AV.lf.lfs [c] = true := by simp [AV.lf.lfs, hc]
  simp only [Hp.put, dBlk, hlf, Bool.and_self]
  rw [lay_one (by omega)]
theorem seen_set {xs ys : List SeenD} {x : SeenD} {q t : Byt} : ((seenE.row (xs ++ x :: ys)).set (xs.length * 3 + 1) q.a).set (xs.length * 3 + 2) t.a = seenE.row (xs ++ ⟨x.k, q, t⟩ :: ys) := by
  have e : ∀ z : SeenD, seenE.row (xs ++ z :: ys) = seenE.row xs ++ (z.cells ++ seenE.row ys) := fun z => by rw [seenE.row_append]; rfl
  have hl : (seenE.row xs).length = xs.length * 3 := seenE.row_len xs
  rw [e, e, List.set_append_right _ _ (by omega), hl, Nat.add_sub_cancel_left, List.set_append_right _ _ (by omega), hl, Nat.add_sub_cancel_left]
  rfl
theorem keysClone_spec (H : KeysLib2 prog) {G a} {xs : List SeenD} (v : ∀ L, TView seenE ⟨G, L⟩ a xs) (hn : ∀ L, (⟨G, L⟩ : Hp).isNil .slice a = some false) (h0 : 0 < xs.length) (hl : xs.length ≤ 1000000) (hq : ∀ x ∈ xs, x.q.b.length ≤ room) (ht : smallKT xs) :
    Ev prog (.call "haberdash/keys.Clone" [a] G) (.ret (.own (.o G.length) (xs.length * 3) 0 xs.length 3 none) (G ++ [some (dBlk (seenE.row (xs.map cloneS)) true false)])) := by
  have hroom : room = 140737488355328 := rfl
  refine call_of_fin H.kclone ?_
  simp only [f_keys_Clone_B, enter, List.length_cons, List.length_nil, List.replicate, Nat.reduceAdd, Nat.reduceSub, List.cons_append, List.nil_append]
  simp (disch := first | (simp only [DS, reduceCtorEq]; done) | omega) only [WS, St.guard, St.put, evalO, reduceCtorEq, reduceIte, Nat.reduceAdd, Nat.reduceEqDiff]
  refine (WP_of (op_news (h := ⟨G, [none, none, none, none]⟩) (Bs := [some (dBlk (seenE.row xs) true false)]) (CloneT H.sc ((v _).into) (seenE.row_lf xs) (isNil_into (v _) (no_l v) (hn _) (seenE.row_lf xs)) h0 (by omega)) (data1 dBlk_l) rfl (by simp) rfl (by exact trivial) ren_own1) ?_)
  simp (disch := first | (simp only [DS, reduceCtorEq]; done) | omega) only [WS, St.guard, St.put, evalO, reduceCtorEq, reduceIte, Nat.reduceAdd, Nat.reduceEqDiff, putAll]
  refine WC_countP (fun i => True) (fun i => ⟨f_keys_Clone_H0 (.own (.l 2) (xs.length * 3) 0 xs.length 3 none) (.own (.l 2) (xs.length * 3) 0 xs.length 3 none) (.v (.int .i64 (xs.length : Nat))) (.v (.int .i64 (i : Nat))),
    ⟨G, [none, none, some (dBlk (seenE.row ((xs.take i).map cloneS ++ xs.drop i)) true false), none]⟩⟩) xs.length ?_ trivial (fun i hi _ => ?_) (fun _ => ?_)
  · exact clear_fre (by simp only [clear_nil, List.foldl_cons, List.foldl_nil, Option.some.injEq, LS, reduceCtorEq, reduceIte, Nat.reduceAdd]; rfl) (by rfl) (by simp only [f_keys_Clone_H0, List.all_cons, List.all_nil, noRef_v, noRef_dead, noRef_own, noRef_ptr, noRef_nil, Bool.and_true, Bool.true_and, Bool.and_self, List.contains_cons, List.contains_nil, Bool.or_false, Nat.reduceBEq, Bool.not_false]) (by rfl)
  · have hlt' : (i : Int) < (xs.length : Int) := by omega
    have hx : xs[i]? = some xs[i] := List.getElem?_eq_getElem hi
    have hdrop : xs.drop i = xs[i] :: xs.drop (i + 1) := List.drop_eq_getElem_cons hi
    generalize xs[i] = x at *
    have hm := List.mem_of_getElem? hx
    obtain ⟨ys, hys⟩ : ∃ ys, ys = (xs.take i).map cloneS := ⟨_, rfl⟩
    have hyl : ys.length = i := by rw [hys]; simp; omega
    rw [← hys, hdrop]
    obtain ⟨zs, hzs⟩ : ∃ zs, zs = ys ++ x :: xs.drop (i + 1) := ⟨_, rfl⟩
    rw [← hzs]
    have hzl : zs.length = xs.length := by rw [hzs]; simp [hyl]; omega
    have hzx : zs[i]? = some x := by rw [hzs, List.getElem?_append_right (by omega), hyl, Nat.sub_self]; rfl
    have hrl : (seenE.row zs).length = xs.length * 3 := by rw [seenE.row_len, hzl]; rfl
    have ix : ∀ L, prim ⟨G, L⟩ (.indexAddr 3) [.own (.l 2) (xs.length * 3) 0 xs.length 3 none, .v (.int .i64 (i : Int))] = some (.ptr (.l 2) (xs.length * 3) (i * 3), ⟨G, L⟩) := fun L => by
      simp only [prim, natOf_nat, Option.bind_some]
      rw [if_pos ⟨hi, trivial⟩, Nat.zero_add]
    have ld : ∀ A B C, prim ⟨G, [A, B, some (dBlk (seenE.row zs) true false), C]⟩ (.load 3 true) [.ptr (.l 2) (xs.length * 3) (i * 3)] = some (.agg x.cells, ⟨G, [A, B, some (dBlk (seenE.row zs) true false), C]⟩) := fun A B C => by
      rw [px_load_l]
      have hch := seenE.row_chunk hzx
      simp only [List.getElem?_cons_succ, List.getElem?_cons_zero, Option.join_some, loadB, dBlk_cells]
      refine (if_pos ⟨hrl, by omega⟩).trans ?_
      rw [show ((seenE.row zs).drop (i * 3)).take 3 = x.cells from hch]; rfl
    have al : ∀ A B C, prim ⟨G, [A, B, C, none]⟩ (.alloc 3 [.string ⟨#[]⟩, .slice none 0 0, .slice none 0 0] []) [] = some (.ptr (.l 3) 3 0, ⟨G, [A, B, C, some (dBlk [.v (.string ⟨#[]⟩), .v (.slice none 0 0), .v (.slice none 0 0)] false false)]⟩) := fun A B C => rfl
    have st : ∀ A B C, prim ⟨G, [A, B, C, some (dBlk [.v (.string ⟨#[]⟩), .v (.slice none 0 0), .v (.slice none 0 0)] false false)]⟩ (.store 3 false) [.ptr (.l 3) 3 0, .agg x.cells] = some (.v undef, ⟨G, [A, B, C, some (dBlk x.cells false false)]⟩) := fun A B C => by
      rw [storeX]
      simp only [List.getElem?_cons_succ, List.getElem?_cons_zero, Option.join_some, cells_agg, storeB, dBlk]
      rw [if_pos ⟨rfl, trivial, rfl, by decide⟩, x.lf]; rfl
    have l1 : ∀ A B C, prim ⟨G, [A, B, C, some (dBlk x.cells false false)]⟩ (.load 1 false) [.ptr (.l 3) 3 1] = some (x.q.a, ⟨G, [A, B, C, some (dBlk x.cells false false)]⟩) := fun A B C => rfl
    have l2 : ∀ A B C, prim ⟨G, [A, B, C, some (dBlk x.cells false false)]⟩ (.load 1 false) [.ptr (.l 3) 3 2] = some (x.t.a, ⟨G, [A, B, C, some (dBlk x.cells false false)]⟩) := fun A B C => rfl
    simp (disch := first | (simp only [DS, reduceCtorEq]; done) | omega) only [f_keys_Clone_L0, f_keys_Clone_H0, WS, St.guard, St.put, evalO, reduceCtorEq, reduceIte, Nat.reduceAdd, Nat.reduceEqDiff, hlt', decide_true, ix, ld, al, st, Nat.zero_add, l1]
    have gd : ∀ (A B : Option Blk) (D : List AV), (∀ c, A = some c → c.labs = []) → (∀ c, B = some c → c.labs = []) → Good ⟨G, [A, B, some (dBlk D true false), some (dBlk x.cells false false)]⟩ := fun A B D hA hB => goodD hA (goodD hB ⟨dBlk_good, dBlk_good, trivial⟩)
    have dn : ∀ c, (none : Option Blk) = some c → c.labs = [] := fun c h => by cases h
    obtain ⟨b1, B1, B1', he1, hc1, hf1, hB1, hB1'⟩ := bcl_op (prog := prog) H.bclone (G := G) (L := [none, none, some (dBlk (seenE.row zs) true false), some (dBlk x.cells false false)]) (site := 0) x.q (hq x hm) rfl (gd _ _ _ dn dn)
    refine WDP_of (a := b1) (h' := ⟨G, [B1, none, some (dBlk (seenE.row zs) true false), some (dBlk x.cells false false)]⟩) (by exact he1) (by exact gd _ _ _ dn dn) (by exact gd _ _ _ hB1 dn) rfl (by exact rfl) ?_
    simp (disch := first | (simp only [DS, reduceCtorEq]; done) | omega) only [WS, St.guard, St.put, evalO, reduceCtorEq, reduceIte, Nat.reduceAdd, Nat.reduceEqDiff]
    refine WDP_er (by exact gd _ _ _ hB1 dn) (by rfl) ?_
    refine ⟨_, _, l2 none none _, rfl, .inr ⟨rfl, gd _ _ _ hB1 dn⟩, ?_⟩
    simp (disch := first | (simp only [DS, reduceCtorEq]; done) | omega) only [WS, St.guard, St.put, evalO, reduceCtorEq, reduceIte, Nat.reduceAdd, Nat.reduceEqDiff, WDX_some, reduceIte, if_true, if_false, Bool.and_true, Bool.true_and, true_and, Bool.false_eq_true, false_or, true_or, Hp.over, AM.over, over_nil, List.foldl_cons, List.foldl_nil, List.set_cons_zero, List.set_cons_succ, List.getElem?_cons_zero, List.getElem?_cons_succ, Option.join_some, List.length_cons, List.length_nil, Prim.sites, List.cons_append, List.nil_append]
    obtain ⟨b2, B2, B2', he2, hc2, hf2, hB2, hB2'⟩ := bcl_op (prog := prog) H.bclone (G := G) (L := [B1, none, some (dBlk (seenE.row zs) true false), some (dBlk x.cells false false)]) (site := 1) x.t (ht x hm) rfl (gd _ _ _ hB1 dn)
    refine WDP_of (a := b2) (h' := ⟨G, [B1, B2, some (dBlk (seenE.row zs) true false), some (dBlk x.cells false false)]⟩) (by exact he2) (by exact gd _ _ _ hB1 dn) (by exact gd _ _ _ hB1 hB2) rfl (by exact rfl) ?_
    simp (disch := first | (simp only [DS, reduceCtorEq]; done) | omega) only [WS, St.guard, St.put, evalO, reduceCtorEq, reduceIte, Nat.reduceAdd, Nat.reduceEqDiff, ix]
    have s1 := store_frz (G := G) (L := [B1, B2, some (dBlk (seenE.row zs) true false), some (dBlk x.cells false false)]) (j := 2) (site := 0) (off := i * 3 + 1) (cells := seenE.row zs) rfl (by decide) hc1 (hf1 _ rfl) hrl (by omega) (cloneY x.q).lf
    refine WDP_loud (by exact s1) ((gd _ _ _ hB1 hB2).okAt) ?_
    simp (disch := first | (simp only [DS, reduceCtorEq]; done) | omega) only [WS, St.guard, St.put, evalO, reduceCtorEq, reduceIte, Nat.reduceAdd, Nat.reduceEqDiff, ix]
    have s2 := store_frz (G := G) (L := [B1', B2, some (dBlk ((seenE.row zs).set (i * 3 + 1) (cloneY x.q).a) true false), some (dBlk x.cells false false)]) (j := 2) (site := 1) (off := i * 3 + 2) (cells := (seenE.row zs).set (i * 3 + 1) (cloneY x.q).a) rfl (by decide) hc2 (hf2 _ rfl) (n := xs.length * 3) (by rw [List.length_set]; exact hrl) (by omega) (cloneY x.t).lf
    refine WDP_loud (by exact s2) ((gd _ _ _ hB1' hB2).okAt) ?_
    simp (disch := first | (simp only [DS, reduceCtorEq]; done) | omega) only [WS, St.guard, St.put, evalO, reduceCtorEq, reduceIte, Nat.reduceAdd, Nat.reduceEqDiff, vBin_add_i64]
    refine ⟨clear_fre (by simp only [clear_nil, List.foldl_cons, List.foldl_nil, Option.some.injEq, LS, reduceCtorEq, reduceIte, Nat.reduceAdd]; rfl) ?_ (by simp only [f_keys_Clone_H0, List.all_cons, List.all_nil, noRef_v, noRef_dead, noRef_own, noRef_ptr, noRef_nil, Bool.and_true, Bool.true_and, Bool.and_self, List.contains_cons, List.contains_nil, Bool.or_false, Nat.reduceBEq, Bool.not_false]) (by rfl), trivial⟩
    have e : ((seenE.row zs).set (i * 3 + 1) (cloneY x.q).a).set (i * 3 + 2) (cloneY x.t).a = seenE.row ((xs.take (i + 1)).map cloneS ++ xs.drop (i + 1)) := by
      rw [hzs, ← hyl, seen_set, hyl, List.take_add_one, hx, List.map_append, ← hys]
      simp only [Option.toList, List.map_cons, List.map_nil, List.append_assoc, List.cons_append, List.nil_append]
      rfl
    rw [e]; rfl
  · simp (disch := first | (simp only [DS, reduceCtorEq]; done) | omega) only [f_keys_Clone_L0, f_keys_Clone_H0, WS, St.guard, St.put, evalO, reduceCtorEq, reduceIte, Nat.reduceAdd, Nat.reduceEqDiff, decide_false, fin_tmp]
    refine ⟨by simp, ?_⟩
    rw [List.take_length, List.drop_length, List.append_nil]
    exact leave_own1 (j := 2) rfl rfl
end Go.AM
namespace Go.AM
variable {prog : String → Option IFn}
def kputE (xs : List SeenD) (x : SeenD) : Int := if rightK xs && nameOK x.k then (if fstB (ksOf xs) x.k < (ksOf xs).length then 8 else if 4000 ≤ xs.length then 6 else 0) else 2
def kputP (xs : List SeenD) (x : SeenD) : List SeenD := if kputE xs x = 0 then (insK xs x).map cloneS else []
def kputR (xs : List SeenD) (x : SeenD) : List SeenD := if kputE xs x = 0 then insK xs x else []
def smallKQ (xs : List SeenD) : Prop := ∀ x ∈ xs, x.q.b.length ≤ room
theorem insK_mem {xs : List SeenD} {x y : SeenD} (h : y ∈ insK xs x) : y ∈ xs ∨ y = x := by
  unfold insK insAt at h
  rw [List.mem_append, List.mem_cons] at h
  rcases h with h | h | h
  · exact .inl (List.mem_of_mem_take h)
  · exact .inr h
  · exact .inl (List.mem_of_mem_drop h)
theorem rightK_len {xs : List SeenD} (h : rightK xs = true) : xs.length ≤ 4000 := by
  unfold rightK at h
  simp only [Bool.and_eq_true, decide_eq_true_eq] at h
  exact h.1
theorem rightK_sorted {xs : List SeenD} (h : rightK xs = true) : sortedB (ksOf xs) = true := by
  unfold rightK at h
  simp only [Bool.and_eq_true] at h
  exact sortedB_rise h.2.2
theorem insK_len {xs : List SeenD} {x : SeenD} : (insK xs x).length = xs.length + 1 := insAt_len (low_le xs x.k)
theorem leave_l2 {h : Hp} {j n len : Nat} {e : Int} {b : Blk} (hL : h.L[j]? = some (some b)) (hb : b.labs = []) : h.leave (.tup [.own (.l j) n 0 len 3 none, .v (.int .i64 e)]) = some (.tup [.own (.o h.G.length) n 0 len 3 none, .v (.int .i64 e)], h.G ++ [some b]) :=
  leave_own (fun a => .tup [a, .v (.int .i64 e)]) (fun _ _ => rfl) (fun a => by simp [AV.labs, AV.labs.labss]) hL hb
def KAns (us : List SeenD) (G : List (Option Blk)) (r : AV) (G2 : List (Option Blk)) : Prop :=
  (us = [] ∧ r = .v (.slice none 0 0) ∧ G2 = G) ∨ (us ≠ [] ∧ r = .own (.o G.length) (us.length * 3) 0 us.length 3 none ∧ G2 = G ++ [some (dBlk (seenE.row us) true false)])
theorem keysPut_spec (H : KeysLib2 prog) {G a} {xs : List SeenD} {x : SeenD} {nb : Bool} (v : ∀ L, TView seenE ⟨G, L⟩ a xs) (hn : ∀ L, (⟨G, L⟩ : Hp).isNil .slice a = some nb) (hb : nb = true → xs = []) (hl : xs.length < 2 ^ 62)
    (hq : smallKQ (x :: xs)) (ht : smallKT (x :: xs)) :
    ∃ r G2, Ev prog (.call "haberdash/keys.Put" [a, .agg x.cells] G) (.ret (.tup [r, .v (.int .i64 (kputE xs x))]) G2) ∧ KAns (kputP xs x) G r G2 := by
  have hroom : room = 140737488355328 := rfl
  have hml : xs.length ≤ maxLen := by unfold maxLen; omega
  have hkl : (ksOf xs).length = xs.length := by simp [ksOf]
  have bx : ∀ L (j : Nat), L[j]? = some none → prim ⟨G, L⟩ (.box j) [.agg x.cells] = some (.ptr (.l j) 3 0, ⟨G, L.set j (some (sBlk x.cells true))⟩) := fun L j hL => box_T (T := seenE) hL
  have ld0 : ∀ B C, prim ⟨G, [some (sBlk x.cells true), B, C]⟩ (.load 1 false) [.ptr (.l 0) 3 0] = some (.v (str x.k), ⟨G, [some (sBlk x.cells true), B, C]⟩) := fun B C => rfl
  have ld3 : ∀ B C, prim ⟨G, [some (sBlk x.cells true), B, C]⟩ (.load 3 true) [.ptr (.l 0) 3 0] = some (.agg x.cells, ⟨G, [some (sBlk x.cells true), B, C]⟩) := fun B C => rfl
  have hbl : (sBlk x.cells true).labs = [] := rfl
  have g0 : Good ⟨G, [some (sBlk x.cells true), none, none]⟩ := ⟨by rw [hbl]; rfl, trivial⟩
  have lenA : ∀ L, prim ⟨G, L⟩ .lenSlice [a] = some (.v (.int .i64 (xs.length : Nat)), ⟨G, L⟩) := fun L => (v L).lenSlice
  have no : ∀ {e : Int}, kputE xs x = e → e ≠ 0 → Ev prog (.call "haberdash/keys.Put" [a, .agg x.cells] G) (.ret (.tup [.v (.slice none 0 0), .v (.int .i64 e)]) G) →
      ∃ r G2, Ev prog (.call "haberdash/keys.Put" [a, .agg x.cells] G) (.ret (.tup [r, .v (.int .i64 (kputE xs x))]) G2) ∧ KAns (kputP xs x) G r G2 := fun {e} he h0 hev => by
    refine ⟨_, _, by rw [he]; exact hev, .inl ⟨?_, rfl, rfl⟩⟩
    unfold kputP; rw [he, if_neg h0]
  cases hr : rightK xs
  · refine no (e := 2) (by unfold kputE; rw [hr]; rfl) (by decide) ?_
    refine call_of_fin H.put ?_
    simp only [f_keys_Put_B, enter, List.length_cons, List.length_nil, List.replicate, Nat.reduceAdd, Nat.reduceSub, List.cons_append, List.nil_append]
    simp (disch := first | (simp only [DS, reduceCtorEq]; done) | omega) only [WS, St.guard, St.put, evalO, reduceCtorEq, reduceIte, Nat.reduceAdd, Nat.reduceEqDiff, bx, new_s, virtBlk_eq, box_s, box_vs, box_vi, box_vb, px_load_l, px_load_o, loadB_s, storeX, storeB_s, alloc_s, lay, whole, Option.join_some, List.drop_zero, List.drop_succ_cons, List.take_succ_cons, List.take_zero, List.drop_nil, List.nil_append, List.cons_append, Nat.reduceLeDiff, Nat.zero_add, and_self, and_true, cells_int, cells_bool, cells_str, cells_string, cells_agg, cells_own, cells_ro, cells_ptr, cells_nil, AV.lf.lfs, AV.lf, px_build, fills, build_string, build_str, build_int, WDR_some, Nat.reduceLeDiff, Nat.le_refl, Bool.and_self]
    refine (WP_p (x := .bool (rightK xs)) (by exact keysRight_spec H.toKeysLib ((v _).into) hml) (by exact g0)).2 ?_
    simp (disch := first | (simp only [DS, reduceCtorEq]; done) | omega) only [WS, St.guard, St.put, evalO, reduceCtorEq, reduceIte, Nat.reduceAdd, Nat.reduceEqDiff, hr, fin_tmp2]
    exact ⟨by simp, leave_lf rfl⟩
  cases hnm : nameOK x.k
  · refine no (e := 2) (by unfold kputE; rw [hr, hnm]; rfl) (by decide) ?_
    refine call_of_fin H.put ?_
    simp only [f_keys_Put_B, enter, List.length_cons, List.length_nil, List.replicate, Nat.reduceAdd, Nat.reduceSub, List.cons_append, List.nil_append]
    simp (disch := first | (simp only [DS, reduceCtorEq]; done) | omega) only [WS, St.guard, St.put, evalO, reduceCtorEq, reduceIte, Nat.reduceAdd, Nat.reduceEqDiff, bx, new_s, virtBlk_eq, box_s, box_vs, box_vi, box_vb, px_load_l, px_load_o, loadB_s, storeX, storeB_s, alloc_s, lay, whole, Option.join_some, List.drop_zero, List.drop_succ_cons, List.take_succ_cons, List.take_zero, List.drop_nil, List.nil_append, List.cons_append, Nat.reduceLeDiff, Nat.zero_add, and_self, and_true, cells_int, cells_bool, cells_str, cells_string, cells_agg, cells_own, cells_ro, cells_ptr, cells_nil, AV.lf.lfs, AV.lf, px_build, fills, build_string, build_str, build_int, WDR_some, Nat.reduceLeDiff, Nat.le_refl, Bool.and_self]
    refine (WP_p (x := .bool (rightK xs)) (by exact keysRight_spec H.toKeysLib ((v _).into) hml) (by exact g0)).2 ?_
    simp (disch := first | (simp only [DS, reduceCtorEq]; done) | omega) only [WS, St.guard, St.put, evalO, reduceCtorEq, reduceIte, Nat.reduceAdd, Nat.reduceEqDiff, hr, new_s, virtBlk_eq, box_s, box_vs, box_vi, box_vb, px_load_l, px_load_o, loadB_s, storeX, storeB_s, alloc_s, lay, whole, Option.join_some, List.drop_zero, List.drop_succ_cons, List.take_succ_cons, List.take_zero, List.drop_nil, List.nil_append, List.cons_append, Nat.reduceLeDiff, Nat.zero_add, and_self, and_true, cells_int, cells_bool, cells_str, cells_string, cells_agg, cells_own, cells_ro, cells_ptr, cells_nil, AV.lf.lfs, AV.lf, px_build, fills, build_string, build_str, build_int, WDR_some, Nat.reduceLeDiff, Nat.le_refl, Bool.and_self, ld0]
    refine (WP_p (x := .bool (nameOK x.k)) (by exact goodsName_spec H.name) (by exact g0)).2 ?_
    simp (disch := first | (simp only [DS, reduceCtorEq]; done) | omega) only [WS, St.guard, St.put, evalO, reduceCtorEq, reduceIte, Nat.reduceAdd, Nat.reduceEqDiff, hnm, fin_tmp2]
    exact ⟨by simp, leave_lf rfl⟩
  have h4 := rightK_len hr
  by_cases hin : fstB (ksOf xs) x.k < (ksOf xs).length
  · refine no (e := 8) (by unfold kputE; rw [hr, hnm, if_pos hin]; rfl) (by decide) ?_
    have hf2 : (findK (ksOf xs) x.k).2 = true := by rw [findK_is]; exact decide_eq_true hin
    refine call_of_fin H.put ?_
    simp only [f_keys_Put_B, enter, List.length_cons, List.length_nil, List.replicate, Nat.reduceAdd, Nat.reduceSub, List.cons_append, List.nil_append]
    simp (disch := first | (simp only [DS, reduceCtorEq]; done) | omega) only [WS, St.guard, St.put, evalO, reduceCtorEq, reduceIte, Nat.reduceAdd, Nat.reduceEqDiff, bx, new_s, virtBlk_eq, box_s, box_vs, box_vi, box_vb, px_load_l, px_load_o, loadB_s, storeX, storeB_s, alloc_s, lay, whole, Option.join_some, List.drop_zero, List.drop_succ_cons, List.take_succ_cons, List.take_zero, List.drop_nil, List.nil_append, List.cons_append, Nat.reduceLeDiff, Nat.zero_add, and_self, and_true, cells_int, cells_bool, cells_str, cells_string, cells_agg, cells_own, cells_ro, cells_ptr, cells_nil, AV.lf.lfs, AV.lf, px_build, fills, build_string, build_str, build_int, WDR_some, Nat.reduceLeDiff, Nat.le_refl, Bool.and_self]
    refine (WP_p (x := .bool (rightK xs)) (by exact keysRight_spec H.toKeysLib ((v _).into) hml) (by exact g0)).2 ?_
    simp (disch := first | (simp only [DS, reduceCtorEq]; done) | omega) only [WS, St.guard, St.put, evalO, reduceCtorEq, reduceIte, Nat.reduceAdd, Nat.reduceEqDiff, hr, new_s, virtBlk_eq, box_s, box_vs, box_vi, box_vb, px_load_l, px_load_o, loadB_s, storeX, storeB_s, alloc_s, lay, whole, Option.join_some, List.drop_zero, List.drop_succ_cons, List.take_succ_cons, List.take_zero, List.drop_nil, List.nil_append, List.cons_append, Nat.reduceLeDiff, Nat.zero_add, and_self, and_true, cells_int, cells_bool, cells_str, cells_string, cells_agg, cells_own, cells_ro, cells_ptr, cells_nil, AV.lf.lfs, AV.lf, px_build, fills, build_string, build_str, build_int, WDR_some, Nat.reduceLeDiff, Nat.le_refl, Bool.and_self, ld0]
    refine (WP_p (x := .bool (nameOK x.k)) (by exact goodsName_spec H.name) (by exact g0)).2 ?_
    simp (disch := first | (simp only [DS, reduceCtorEq]; done) | omega) only [WS, St.guard, St.put, evalO, reduceCtorEq, reduceIte, Nat.reduceAdd, Nat.reduceEqDiff, hnm, new_s, virtBlk_eq, box_s, box_vs, box_vi, box_vb, px_load_l, px_load_o, loadB_s, storeX, storeB_s, alloc_s, lay, whole, Option.join_some, List.drop_zero, List.drop_succ_cons, List.take_succ_cons, List.take_zero, List.drop_nil, List.nil_append, List.cons_append, Nat.reduceLeDiff, Nat.zero_add, and_self, and_true, cells_int, cells_bool, cells_str, cells_string, cells_agg, cells_own, cells_ro, cells_ptr, cells_nil, AV.lf.lfs, AV.lf, px_build, fills, build_string, build_str, build_int, WDR_some, Nat.reduceLeDiff, Nat.le_refl, Bool.and_self, ld0]
    refine (WP_r (r := .tup [.v (.int .i64 (findK (ksOf xs) x.k).1), .v (.bool (findK (ksOf xs) x.k).2)]) (by exact kfind_spec H.toKeysLib ((v _).into) hl) rfl (by exact g0)).2 ?_
    simp (disch := first | (simp only [DS, reduceCtorEq]; done) | omega) only [WS, St.guard, St.put, evalO, reduceCtorEq, reduceIte, Nat.reduceAdd, Nat.reduceEqDiff, hf2, fin_tmp2]
    exact ⟨by simp, leave_lf rfl⟩
  have hf2 : (findK (ksOf xs) x.k).2 = false := by rw [findK_is]; exact decide_eq_false hin
  by_cases h5 : 4000 ≤ xs.length
  · refine no (e := 6) (by unfold kputE; rw [hr, hnm, if_neg hin, if_pos h5]; rfl) (by decide) ?_
    refine call_of_fin H.put ?_
    simp only [f_keys_Put_B, enter, List.length_cons, List.length_nil, List.replicate, Nat.reduceAdd, Nat.reduceSub, List.cons_append, List.nil_append]
    simp (disch := first | (simp only [DS, reduceCtorEq]; done) | omega) only [WS, St.guard, St.put, evalO, reduceCtorEq, reduceIte, Nat.reduceAdd, Nat.reduceEqDiff, bx, new_s, virtBlk_eq, box_s, box_vs, box_vi, box_vb, px_load_l, px_load_o, loadB_s, storeX, storeB_s, alloc_s, lay, whole, Option.join_some, List.drop_zero, List.drop_succ_cons, List.take_succ_cons, List.take_zero, List.drop_nil, List.nil_append, List.cons_append, Nat.reduceLeDiff, Nat.zero_add, and_self, and_true, cells_int, cells_bool, cells_str, cells_string, cells_agg, cells_own, cells_ro, cells_ptr, cells_nil, AV.lf.lfs, AV.lf, px_build, fills, build_string, build_str, build_int, WDR_some, Nat.reduceLeDiff, Nat.le_refl, Bool.and_self]
    refine (WP_p (x := .bool (rightK xs)) (by exact keysRight_spec H.toKeysLib ((v _).into) hml) (by exact g0)).2 ?_
    simp (disch := first | (simp only [DS, reduceCtorEq]; done) | omega) only [WS, St.guard, St.put, evalO, reduceCtorEq, reduceIte, Nat.reduceAdd, Nat.reduceEqDiff, hr, new_s, virtBlk_eq, box_s, box_vs, box_vi, box_vb, px_load_l, px_load_o, loadB_s, storeX, storeB_s, alloc_s, lay, whole, Option.join_some, List.drop_zero, List.drop_succ_cons, List.take_succ_cons, List.take_zero, List.drop_nil, List.nil_append, List.cons_append, Nat.reduceLeDiff, Nat.zero_add, and_self, and_true, cells_int, cells_bool, cells_str, cells_string, cells_agg, cells_own, cells_ro, cells_ptr, cells_nil, AV.lf.lfs, AV.lf, px_build, fills, build_string, build_str, build_int, WDR_some, Nat.reduceLeDiff, Nat.le_refl, Bool.and_self, ld0]
    refine (WP_p (x := .bool (nameOK x.k)) (by exact goodsName_spec H.name) (by exact g0)).2 ?_
    simp (disch := first | (simp only [DS, reduceCtorEq]; done) | omega) only [WS, St.guard, St.put, evalO, reduceCtorEq, reduceIte, Nat.reduceAdd, Nat.reduceEqDiff, hnm, new_s, virtBlk_eq, box_s, box_vs, box_vi, box_vb, px_load_l, px_load_o, loadB_s, storeX, storeB_s, alloc_s, lay, whole, Option.join_some, List.drop_zero, List.drop_succ_cons, List.take_succ_cons, List.take_zero, List.drop_nil, List.nil_append, List.cons_append, Nat.reduceLeDiff, Nat.zero_add, and_self, and_true, cells_int, cells_bool, cells_str, cells_string, cells_agg, cells_own, cells_ro, cells_ptr, cells_nil, AV.lf.lfs, AV.lf, px_build, fills, build_string, build_str, build_int, WDR_some, Nat.reduceLeDiff, Nat.le_refl, Bool.and_self, ld0]
    refine (WP_r (r := .tup [.v (.int .i64 (findK (ksOf xs) x.k).1), .v (.bool (findK (ksOf xs) x.k).2)]) (by exact kfind_spec H.toKeysLib ((v _).into) hl) rfl (by exact g0)).2 ?_
    simp (disch := first | (simp only [DS, reduceCtorEq]; done) | omega) only [WS, St.guard, St.put, evalO, reduceCtorEq, reduceIte, Nat.reduceAdd, Nat.reduceEqDiff, hf2, lenA, show (xs.length : Int) ≥ 4000 from by omega, decide_true, fin_tmp2]
    exact ⟨by simp, leave_lf rfl⟩
  have he : kputE xs x = 0 := by unfold kputE; rw [hr, hnm, if_neg hin, if_neg h5]; rfl
  have hp : kputP xs x = (insK xs x).map cloneS := by unfold kputP; rw [if_pos he]
  rw [he, hp]
  refine ⟨.own (.o G.length) ((xs.length + 1) * 3) 0 (xs.length + 1) 3 none, G ++ [some (dBlk (seenE.row ((insK xs x).map cloneS)) true false)], ?_, .inr ⟨fun h => by have := congrArg List.length h; rw [List.length_map, insK_len] at this; simp at this, by rw [List.length_map, insK_len], rfl⟩⟩
  refine call_of_fin H.put ?_
  simp only [f_keys_Put_B, enter, List.length_cons, List.length_nil, List.replicate, Nat.reduceAdd, Nat.reduceSub, List.cons_append, List.nil_append]
  simp (disch := first | (simp only [DS, reduceCtorEq]; done) | omega) only [WS, St.guard, St.put, evalO, reduceCtorEq, reduceIte, Nat.reduceAdd, Nat.reduceEqDiff, bx, new_s, virtBlk_eq, box_s, box_vs, box_vi, box_vb, px_load_l, px_load_o, loadB_s, storeX, storeB_s, alloc_s, lay, whole, Option.join_some, List.drop_zero, List.drop_succ_cons, List.take_succ_cons, List.take_zero, List.drop_nil, List.nil_append, List.cons_append, Nat.reduceLeDiff, Nat.zero_add, and_self, and_true, cells_int, cells_bool, cells_str, cells_string, cells_agg, cells_own, cells_ro, cells_ptr, cells_nil, AV.lf.lfs, AV.lf, px_build, fills, build_string, build_str, build_int, WDR_some, Nat.reduceLeDiff, Nat.le_refl, Bool.and_self]
  refine (WP_p (x := .bool (rightK xs)) (by exact keysRight_spec H.toKeysLib ((v _).into) hml) (by exact g0)).2 ?_
  simp (disch := first | (simp only [DS, reduceCtorEq]; done) | omega) only [WS, St.guard, St.put, evalO, reduceCtorEq, reduceIte, Nat.reduceAdd, Nat.reduceEqDiff, hr, new_s, virtBlk_eq, box_s, box_vs, box_vi, box_vb, px_load_l, px_load_o, loadB_s, storeX, storeB_s, alloc_s, lay, whole, Option.join_some, List.drop_zero, List.drop_succ_cons, List.take_succ_cons, List.take_zero, List.drop_nil, List.nil_append, List.cons_append, Nat.reduceLeDiff, Nat.zero_add, and_self, and_true, cells_int, cells_bool, cells_str, cells_string, cells_agg, cells_own, cells_ro, cells_ptr, cells_nil, AV.lf.lfs, AV.lf, px_build, fills, build_string, build_str, build_int, WDR_some, Nat.reduceLeDiff, Nat.le_refl, Bool.and_self, ld0]
  refine (WP_p (x := .bool (nameOK x.k)) (by exact goodsName_spec H.name) (by exact g0)).2 ?_
  simp (disch := first | (simp only [DS, reduceCtorEq]; done) | omega) only [WS, St.guard, St.put, evalO, reduceCtorEq, reduceIte, Nat.reduceAdd, Nat.reduceEqDiff, hnm, new_s, virtBlk_eq, box_s, box_vs, box_vi, box_vb, px_load_l, px_load_o, loadB_s, storeX, storeB_s, alloc_s, lay, whole, Option.join_some, List.drop_zero, List.drop_succ_cons, List.take_succ_cons, List.take_zero, List.drop_nil, List.nil_append, List.cons_append, Nat.reduceLeDiff, Nat.zero_add, and_self, and_true, cells_int, cells_bool, cells_str, cells_string, cells_agg, cells_own, cells_ro, cells_ptr, cells_nil, AV.lf.lfs, AV.lf, px_build, fills, build_string, build_str, build_int, WDR_some, Nat.reduceLeDiff, Nat.le_refl, Bool.and_self, ld0]
  refine (WP_r (r := .tup [.v (.int .i64 (findK (ksOf xs) x.k).1), .v (.bool (findK (ksOf xs) x.k).2)]) (by exact kfind_spec H.toKeysLib ((v _).into) hl) rfl (by exact g0)).2 ?_
  simp (disch := first | (simp only [DS, reduceCtorEq]; done) | omega) only [WS, St.guard, St.put, evalO, reduceCtorEq, reduceIte, Nat.reduceAdd, Nat.reduceEqDiff, hf2, lenA, show ¬ ((xs.length : Int) ≥ 4000) from by omega, decide_false, ld3]
  have eG : (AV.agg x.cells).ren (up G.length) = .agg x.cells := ren_id fun ℓ hℓ => by rw [lf_of_labs_nil (show (AV.agg x.cells).lf = true from x.lf)] at hℓ; cases hℓ
  refine WP_one (n := (xs.length + 1) * 3) (off := 0) (len := xs.length + 1) (esz := 3) (cap := none) (cells := seenE.row (insK xs x)) (o := true) (v := false) (by
    rw [List.map_cons, List.map_cons, List.map_nil]
    rw [show (AV.agg x.cells).ren (up _) = .agg x.cells from eG]
    exact keysInsert_spec H ((v _).into) (isNil_into (v _) (no_l v) (hn _) (seenE.row_lf xs)) hb (by omega) (rightK_sorted hr)) (by exact g0) (by rfl) ?_
  simp (disch := first | (simp only [DS, reduceCtorEq]; done) | omega) only [WS, St.guard, St.put, evalO, reduceCtorEq, reduceIte, Nat.reduceAdd, Nat.reduceEqDiff]
  have vI : TView seenE ⟨G, [some (sBlk x.cells true), some (dBlk (seenE.row (insK xs x)) true false), none]⟩ (.own (.l 1) ((xs.length + 1) * 3) 0 (xs.length + 1) 3 none) (insK xs x) := by
    have := own_T (T := seenE) (G := G) (L := [some (sBlk x.cells true), some (dBlk (seenE.row (insK xs x)) true false), none]) (j := 1) (xs := insK xs x) (o := true) (v := false) (cap := none) rfl (by simp)
    rw [insK_len] at this; exact this
  have nI : ∀ L, (⟨(⟨G, [some (sBlk x.cells true), some (dBlk (seenE.row (insK xs x)) true false), none]⟩ : Hp).into, L⟩ : Hp).isNil .slice ((AV.own (.l 1) ((xs.length + 1) * 3) 0 (xs.length + 1) 3 none).ren (up G.length)) = some false := fun L => by
    have hB : (⟨(⟨G, [some (sBlk x.cells true), some (dBlk (seenE.row (insK xs x)) true false), none]⟩ : Hp).into, L⟩ : Hp).get (.o (G.length + 1)) = some (dBlk (seenE.row (insK xs x)) true false) :=
      get_into_data (h := ⟨G, [some (sBlk x.cells true), some (dBlk (seenE.row (insK xs x)) true false), none]⟩) (j := 1) rfl rfl
    exact isNil_own hB (by rw [dBlk_cells, seenE.row_len, insK_len]; rfl)
  refine WP_one (n := (xs.length + 1) * 3) (off := 0) (len := xs.length + 1) (esz := 3) (cap := none) (cells := seenE.row ((insK xs x).map cloneS)) (o := true) (v := false) (by
    rw [List.map_cons, List.map_nil]
    have := keysClone_spec H (vI.into) nI (by rw [insK_len]; omega) (by rw [insK_len]; omega) (fun y hy => hq y (by rcases insK_mem hy with h | h <;> simp [h])) (fun y hy => ht y (by rcases insK_mem hy with h | h <;> simp [h]))
    rw [insK_len] at this
    exact this) (by exact ⟨by rw [hbl]; rfl, dBlk_good, trivial⟩) (by rfl) ?_
  simp (disch := first | (simp only [DS, reduceCtorEq]; done) | omega) only [WS, St.guard, St.put, evalO, reduceCtorEq, reduceIte, Nat.reduceAdd, Nat.reduceEqDiff, fin_tmp2]
  exact ⟨by simp, leave_l2 (j := 2) rfl rfl⟩
theorem low_fst {ks : List Txt} {s : Txt} (h : Sorted ks) : (ks[lowB ks s]? = some s) = (fstB ks s < ks.length) := by
  have e := fst_low (s := s) h
  unfold findV at e
  apply propext
  constructor
  · intro h1
    rw [if_pos h1] at e
    by_cases h2 : fstB ks s < ks.length
    · exact h2
    · rw [if_neg h2] at e; omega
  · intro h1
    rw [if_pos h1] at e
    by_cases h2 : ks[lowB ks s]? = some s
    · exact h2
    · rw [if_neg h2] at e; omega
end Go.AM
