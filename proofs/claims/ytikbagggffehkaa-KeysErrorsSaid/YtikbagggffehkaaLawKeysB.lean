import Derived.Test.YtikbagggffehkaaLawKeysA
set_option linter.unusedVariables false
set_option linter.unusedSimpArgs false
namespace Go.AM
variable {prog : String → Option IFn}
structure Law26D (prog : String → Option IFn) : Prop extends Law26 prog where
  mod : prog "haberdash/haberdashplay.Mod" = some f_play_Mod
def seenS (k : Txt) : SeenD := ⟨k, noB, noB⟩
theorem seen_nil (l : List SeenD) (h : ∀ y ∈ l, y.q.b = [] ∧ y.t.b = []) : smallKQ l ∧ smallKT l := by
  have hroom : room = 140737488355328 := rfl
  refine ⟨fun y hy => ?_, fun y hy => ?_⟩
  · rw [(h y hy).1]; simp
  · rw [(h y hy).2]; simp
theorem KeysErrors_law (H : Law26D prog) (hp : prog "haberdash/haberdashlaw26.KeysErrors" = some f_law26_KeysErrors) {as} (h : IsAll [.str, .int .i64] as) :
    ∃ G2, Ev prog (.call "haberdash/haberdashlaw26.KeysErrors" as []) (.ret (.v (.bool true)) G2) := by
  rcases as with _ | ⟨a0, _ | ⟨a1, _ | _⟩⟩ <;> try (simp [IsAll] at h; done)
  obtain ⟨⟨c0, h0, rfl⟩, ⟨c1, h1, rfl⟩, _⟩ := h
  obtain ⟨s, rfl, hs⟩ := is_str h0
  obtain ⟨n, rfl, hn⟩ := is_i64 h1
  have hroom : room = 140737488355328 := rfl
  have hmx : maxLen = 9223372036854775807 := rfl
  refine ⟨[], call_of_fin hp ?_⟩
  have aw : ∀ G, G.length = 3 → Ev prog (.call "haberdash/haberdashlaw26.awake" [] G) (.ret (.v (.bool true)) G) := fun G h => awake26 H.toLaw26 (.inl h)
  have hi : ∀ n : Int, (n == n) = true := fun n => by simp
  have hb : ∀ b : Bool, (b == b) = true := fun b => by cases b <;> rfl
  have lenS : ∀ {h : Hp}, prim h .lenStr [.v (str s)] = some (.v (.int .i64 (s.length : Nat)), h) := by intro h; simp [prim, str, goInt, ByteArray.size]
  have gn : Good ⟨[], [none, none, none]⟩ := trivial
  have b98 : ∀ h, prim h (.build [.string ⟨#[]⟩, .slice none 0 0, .slice none 0 0] [(0, 1)]) [.v (.string ⟨#[98]⟩)] = some (.agg (seenS [98]).cells, h) := fun h => rfl
  have b100 : ∀ h, prim h (.build [.string ⟨#[]⟩, .slice none 0 0, .slice none 0 0] [(0, 1)]) [.v (.string ⟨#[100]⟩)] = some (.agg (seenS [100]).cells, h) := fun h => rfl
  have bS : ∀ h, prim h (.build [.string ⟨#[]⟩, .slice none 0 0, .slice none 0 0] [(0, 1)]) [.v (str s)] = some (.agg (seenS s).cells, h) := fun h => rfl
  have bs : prim ⟨[], [none, none, none]⟩ (.buildSlice 0 false 3 2 [.string ⟨#[]⟩, .slice none 0 0, .slice none 0 0] [(0, 3), (3, 3)]) [.agg (seenS [98]).cells, .agg (seenS [100]).cells] =
      some (.own (.l 0) 6 0 2 3 (some 2), ⟨[], [some (dBlk (seenE.row [seenS [98], seenS [100]]) false false), none, none]⟩) := rfl
  simp only [f_law26_KeysErrors_B, enter, List.length_cons, List.length_nil, List.replicate, Nat.reduceAdd, Nat.reduceSub, List.cons_append, List.nil_append, Ty.arg, intAV]
  simp (disch := first | (simp only [DS, reduceCtorEq]; done) | omega) only [WS, St.guard, St.put, evalO, reduceCtorEq, reduceIte, Nat.reduceAdd, Nat.reduceEqDiff, lenS]
  by_cases h60 : (s.length : Int) > 60
  · simp (disch := first | (simp only [DS, reduceCtorEq]; done) | omega) only [WS, St.guard, St.put, evalO, reduceCtorEq, reduceIte, Nat.reduceAdd, Nat.reduceEqDiff, h60, decide_true]
    refine (WP_p (x := .bool true) (by exact aw _ rfl) gn).2 ?_
    simp (disch := first | (simp only [DS, reduceCtorEq]; done) | omega) only [WS, St.guard, St.put, evalO, reduceCtorEq, reduceIte, Nat.reduceAdd, Nat.reduceEqDiff, fin_tmp, leave_v]
    simp
  simp (disch := first | (simp only [DS, reduceCtorEq]; done) | omega) only [WS, St.guard, St.put, evalO, reduceCtorEq, reduceIte, Nat.reduceAdd, Nat.reduceEqDiff, h60, decide_false, b98, b100, bs]
  have gl : ∀ (l : List SeenD) B C, (∀ c, B = some c → c.labs = []) → (∀ c, C = some c → c.labs = []) → Good ⟨[], [some (dBlk (seenE.row l) false false), B, C]⟩ := fun l B C hB hC => ⟨dBlk_good, goodD hB (goodD hC trivial)⟩
  have dn : ∀ c, (none : Option Blk) = some c → c.labs = [] := fun c h => by cases h
  refine (WP_p (x := .int .i64 (umod n 4 : Nat)) (by exact Mod_spec H.mod 4 rfl (by omega) (by omega)) (by exact gl _ none none dn dn)).2 ?_
  have hm4 : umod n 4 < 4 := umod_lt (by omega)
  have hsl : (s : Txt).length ≤ maxLen := hs
  have ix0 : ∀ {h : Hp}, prim h (.indexAddr 3) [.own (.l 0) 6 0 2 3 (some 2), .v (.int .i64 0)] = some (.ptr (.l 0) 6 0, h) := fun {h} => rfl
  have ix1 : ∀ {h : Hp}, prim h (.indexAddr 3) [.own (.l 0) 6 0 2 3 (some 2), .v (.int .i64 1)] = some (.ptr (.l 0) 6 3, h) := fun {h} => rfl
  have s1 : prim ⟨[], [some (dBlk (seenE.row [seenS [98], seenS [100]]) false false), none, none]⟩ (.store 1 false) [.ptr (.l 0) 6 0, .v (.string ⟨#[100]⟩)] = some (.v undef, ⟨[], [some (dBlk (seenE.row [seenS [100], seenS [100]]) false false), none, none]⟩) := rfl
  have s2 : prim ⟨[], [some (dBlk (seenE.row [seenS [98], seenS [100]]) false false), none, none]⟩ (.store 1 false) [.ptr (.l 0) 6 3, .v (str s)] = some (.v undef, ⟨[], [some (dBlk (seenE.row [seenS [98], seenS s]) false false), none, none]⟩) := rfl
  have l3 : prim ⟨[], [some (dBlk (seenE.row [seenS [98], seenS [100]]) false false), none, none]⟩ (.load 3 true) [.ptr (.l 0) 6 3] = some (.agg (seenS [100]).cells, ⟨[], [some (dBlk (seenE.row [seenS [98], seenS [100]]) false false), none, none]⟩) := rfl
  have l0 : prim ⟨[], [some (dBlk (seenE.row [seenS [98], seenS [100]]) false false), none, none]⟩ (.load 3 true) [.ptr (.l 0) 6 0] = some (.agg (seenS [98]).cells, ⟨[], [some (dBlk (seenE.row [seenS [98], seenS [100]]) false false), none, none]⟩) := rfl
  have s30 : prim ⟨[], [some (dBlk (seenE.row [seenS [98], seenS [100]]) false false), none, none]⟩ (.store 3 false) [.ptr (.l 0) 6 0, .agg (seenS [100]).cells] = some (.v undef, ⟨[], [some (dBlk (seenE.row [seenS [100], seenS [100]]) false false), none, none]⟩) := rfl
  have s33 : prim ⟨[], [some (dBlk (seenE.row [seenS [100], seenS [100]]) false false), none, none]⟩ (.store 3 false) [.ptr (.l 0) 6 3, .agg (seenS [98]).cells] = some (.v undef, ⟨[], [some (dBlk (seenE.row [seenS [100], seenS [98]]) false false), none, none]⟩) := rfl
  have e01 : ((0 : Nat) : Int) = 0 := rfl
  have hcase : umod n 4 = 0 ∨ umod n 4 = 1 ∨ umod n 4 = 2 ∨ umod n 4 = 3 := by omega
  have mk : ∀ k1 k2 : Txt, k1.length ≤ maxLen → k2.length ≤ maxLen → ∃ l : List SeenD, l = [seenS k1, seenS k2] ∧ l.length = 2 ∧ (∀ y ∈ l, y.q.b = [] ∧ y.t.b = []) ∧ smallK l := fun k1 k2 h1 h2 =>
    ⟨_, rfl, rfl, by simp [seenS, noB], fun y hy => by simp at hy; rcases hy with rfl | rfl <;> assumption⟩
  rcases hcase with hm | hm | hm | hm <;> rw [hm]
  case' inl =>
    simp (disch := first | (simp only [DS, reduceCtorEq]; done) | omega) only [WS, St.guard, St.put, evalO, reduceCtorEq, reduceIte, Nat.reduceAdd, Nat.reduceEqDiff, vBin_eql, show (((0 : Nat) : Int) == 1) = false from rfl, show ((0 : Int) == 1) = false from rfl, show (((0 : Nat) : Int) == 2) = false from rfl, show ((0 : Int) == 2) = false from rfl, show (((0 : Nat) : Int) == 3) = false from rfl, show ((0 : Int) == 3) = false from rfl]
    obtain ⟨l, hl, hl2, hqt, hsk⟩ := mk [98] [100] (by rw [hmx]; simp) (by rw [hmx]; simp)
    rw [← hl]
  case' inr.inl =>
    simp (disch := first | (simp only [DS, reduceCtorEq]; done) | omega) only [WS, St.guard, St.put, evalO, reduceCtorEq, reduceIte, Nat.reduceAdd, Nat.reduceEqDiff, vBin_eql, show (((1 : Nat) : Int) == 1) = true from rfl, show ((1 : Int) == 1) = true from rfl, ix0, s1]
    obtain ⟨l, hl, hl2, hqt, hsk⟩ := mk [100] [100] (by rw [hmx]; simp) (by rw [hmx]; simp)
    rw [← hl]
  case' inr.inr.inl =>
    simp (disch := first | (simp only [DS, reduceCtorEq]; done) | omega) only [WS, St.guard, St.put, evalO, reduceCtorEq, reduceIte, Nat.reduceAdd, Nat.reduceEqDiff, vBin_eql, show (((2 : Nat) : Int) == 1) = false from rfl, show ((2 : Int) == 1) = false from rfl, show (((2 : Nat) : Int) == 2) = true from rfl, show ((2 : Int) == 2) = true from rfl, ix1, Nat.zero_add, s2]
    obtain ⟨l, hl, hl2, hqt, hsk⟩ := mk [98] s (by rw [hmx]; simp) hsl
    rw [← hl]
  case' inr.inr.inr =>
    simp (disch := first | (simp only [DS, reduceCtorEq]; done) | omega) only [WS, St.guard, St.put, evalO, reduceCtorEq, reduceIte, Nat.reduceAdd, Nat.reduceEqDiff, vBin_eql, show (((3 : Nat) : Int) == 1) = false from rfl, show ((3 : Int) == 1) = false from rfl, show (((3 : Nat) : Int) == 2) = false from rfl, show ((3 : Int) == 2) = false from rfl, show (((3 : Nat) : Int) == 3) = true from rfl, show ((3 : Int) == 3) = true from rfl, ix0, ix1, Nat.zero_add, l3, l0]
    refine WDP_of (.prim s30) (by exact gl _ none none dn dn) (by exact gl _ none none dn dn) rfl rfl ?_
    simp (disch := first | (simp only [DS, reduceCtorEq]; done) | omega) only [WS, St.guard, St.put, evalO, reduceCtorEq, reduceIte, Nat.reduceAdd, Nat.reduceEqDiff, ix1]
    refine WDP_of (.prim s33) (by exact gl _ none none dn dn) (by exact gl _ none none dn dn) rfl rfl ?_
    obtain ⟨l, hl, hl2, hqt, hsk⟩ := mk [100] [98] (by rw [hmx]; simp) (by rw [hmx]; simp)
    rw [← hl]
  all_goals
    have vv : ∀ B C, TView seenE ⟨[], [some (dBlk (seenE.row l) false false), B, C]⟩ (.own (.l 0) 6 0 2 3 (some 2)) l := fun B C => by
      have := own_T (T := seenE) (G := []) (L := [some (dBlk (seenE.row l) false false), B, C]) (xs := l) (j := 0) (o := false) (v := false) (cap := some 2) rfl (fun c h => by cases h; omega)
      rw [hl2] at this; exact this
    have vi : ∀ B C L', TView seenE ⟨(⟨[], [some (dBlk (seenE.row l) false false), B, C]⟩ : Hp).into, L'⟩ ((AV.own (.l 0) 6 0 2 3 (some 2)).ren (up ([] : List (Option Blk)).length)) l := fun B C => (vv B C).into
    have ni : ∀ B C L', (⟨(⟨[], [some (dBlk (seenE.row l) false false), B, C]⟩ : Hp).into, L'⟩ : Hp).isNil .slice ((AV.own (.l 0) 6 0 2 3 (some 2)).ren (up ([] : List (Option Blk)).length)) = some false := fun B C L' => by
      have hB : (⟨(⟨[], [some (dBlk (seenE.row l) false false), B, C]⟩ : Hp).into, L'⟩ : Hp).get (.o (([] : List (Option Blk)).length + 0)) = some (dBlk (seenE.row l) false false) := get_into_data (h := ⟨[], [some (dBlk (seenE.row l) false false), B, C]⟩) (j := 0) rfl rfl
      exact isNil_own hB (by rw [dBlk_cells, seenE.row_len, hl2]; rfl)
    have hqt' : ∀ y ∈ seenS s :: l, y.q.b = [] ∧ y.t.b = [] := fun y hy => by
      rcases List.mem_cons.1 hy with rfl | hy
      · exact ⟨rfl, rfl⟩
      · exact hqt y hy
    have hsk' : smallK (seenS s :: l) := fun y hy => by
      rcases List.mem_cons.1 hy with rfl | hy
      · exact hsl
      · exact hsk y hy
    simp (disch := first | (simp only [DS, reduceCtorEq]; done) | omega) only [WS, St.guard, St.put, evalO, reduceCtorEq, reduceIte, Nat.reduceAdd, Nat.reduceEqDiff, bS]
    obtain ⟨u1, B1, ev1, K1⟩ := op_put (prog := prog) (f := "haberdash/keys.Put") (args := [.own (.l 0) 6 0 2 3 (some 2), .agg (seenS s).cells]) (site := 1) (G := []) (L := [some (dBlk (seenE.row l) false false), none, none]) (us := kputP l (seenS s)) (e := kputE l (seenS s))
      (by rw [List.map_cons, List.map_cons, List.map_nil, agg_ren]; exact keysPut_spec H.toKeysLib2 (vi none none) (ni none none) (fun h => by cases h) (by omega) (seen_nil _ hqt').1 (seen_nil _ hqt').2) rfl (gl _ none none dn dn)
    refine WP_of (by exact ev1) ?_
    simp (disch := first | (simp only [DS, reduceCtorEq]; done) | omega) only [WS, St.guard, St.put, evalO, reduceCtorEq, reduceIte, Nat.reduceAdd, Nat.reduceEqDiff, bS]
    obtain ⟨u2, B2, ev2, K2⟩ := op_put (prog := prog) (f := "haberdash/haberdashref25.Put") (args := [.own (.l 0) 6 0 2 3 (some 2), .agg (seenS s).cells]) (site := 2) (G := []) (L := [some (dBlk (seenE.row l) false false), B1, none]) (us := kputR l (seenS s)) (e := kputE l (seenS s))
      (by rw [List.map_cons, List.map_cons, List.map_nil, agg_ren]; exact refPut_spec H.toKeysLib2 (vi B1 none) (by omega) hsk') rfl (gl _ B1 none K1.lab dn)
    refine WP_of (by exact ev2) ?_
    simp (disch := first | (simp only [DS, reduceCtorEq]; done) | omega) only [WS, St.guard, St.put, evalO, reduceCtorEq, reduceIte, Nat.reduceAdd, Nat.reduceEqDiff]
    refine (WP_p (x := .bool true) (by exact aw _ rfl) (by exact gl _ B1 B2 K1.lab K2.lab)).2 ?_
    simp (disch := first | (simp only [DS, reduceCtorEq]; done) | omega) only [WS, St.guard, St.put, evalO, reduceCtorEq, reduceIte, Nat.reduceAdd, Nat.reduceEqDiff, vBin_eql, hi]
    refine (WP_p (x := .bool (rightK l)) (by exact keysRight_spec H.toKeysLib (vi B1 B2) (by omega)) (by exact gl _ B1 B2 K1.lab K2.lab)).2 ?_
    simp (disch := first | (simp only [DS, reduceCtorEq]; done) | omega) only [WS, St.guard, St.put, evalO, reduceCtorEq, reduceIte, Nat.reduceAdd, Nat.reduceEqDiff]
    refine (WP_p (x := .bool (rightK l)) (by exact refKeys_spec H.toKeysLib (vi B1 B2) (by omega) hsk) (by exact gl _ B1 B2 K1.lab K2.lab)).2 ?_
    simp (disch := first | (simp only [DS, reduceCtorEq]; done) | omega) only [WS, St.guard, St.put, evalO, reduceCtorEq, reduceIte, Nat.reduceAdd, Nat.reduceEqDiff, hb, fin_tmp, leave_v]
    simp
end Go.AM
