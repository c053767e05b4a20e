import Derived.Test.YtikbagggffehkaaKeysD
set_option linter.unusedVariables false
set_option linter.unusedSimpArgs false
namespace Go.AM
variable {prog : String → Option IFn}
def kU (site : Nat) (ls : List SeenD) : AV := if ls = [] then .v (.slice none 0 0) else .own (.l site) (ls.length * 3) 0 ls.length 3 none
def kK (ls : List SeenD) : Option Blk := if ls = [] then none else some (dBlk (seenE.row ls) true false)
theorem kSite (site : Nat) (ls : List SeenD) : KSite site (kU site ls) (kK ls) ls := by
  unfold kU kK
  by_cases h : ls = []
  · rw [if_pos h, if_pos h]; exact .inl ⟨h, rfl, rfl⟩
  · rw [if_neg h, if_neg h]; exact .inr ⟨h, rfl, rfl⟩
theorem kK_lab {ls : List SeenD} : ∀ c, kK ls = some c → c.labs = [] := (kSite 0 ls).lab
theorem kK_ref {ls : List SeenD} {ks : List Nat} : blkNoRef ks (kK ls) = true := by
  unfold blkNoRef
  cases h : kK ls with
  | none => rfl
  | some B => simp only; rw [kK_lab B h]; rfl
def roB (b : Txt) : Byt := ⟨b, .ro false 1 b.length (b.map byteAV), .inr ⟨false, rfl, fun h => by cases h⟩⟩
def fzB (b : Txt) : Option Blk := some { (dBlk (b.map byteAV) false false) with wr := false }
theorem fzB_lab {b : Txt} : ∀ c, fzB b = some c → c.labs = [] := by intro c h; cases h; rfl
theorem buildF3 {h h1 h2 : Hp} {k : Txt} {a1 a2 b1 b2 : AV} (f1 : h.freeze a1 = some (b1, h1)) (f2 : h1.freeze a2 = some (b2, h2)) (c1 : b1.cellsOf = some [b1]) (c2 : b2.cellsOf = some [b2]) :
    prim h (.buildF [.string ⟨#[]⟩, .slice none 0 0, .slice none 0 0] [(0, 1), (1, 1), (2, 1)]) [.v (str k), a1, a2] = some (.agg [.v (str k), b1, b2], h2) := by
  rw [px_buildF]
  have f0 : h.freeze (.v (str k)) = some (.v (str k), h) := rfl
  simp only [Hp.freezes, f0, f1, f2, Option.bind_some, Option.map_some]
  have c0 : (AV.v (str k)).cellsOf = some [.v (str k)] := rfl
  simp only [fills, c0, c1, c2]
  rfl
theorem op_ask {f args} {site : Nat} {G L : List (Option Blk)} {w : Txt × Int} (he : ∃ r Bs, Ev prog (.call f (args.map (AV.ren (up G.length))) (⟨G, L⟩ : Hp).into) (.ret (.tup [r, .v (.int .i64 w.2)]) ((⟨G, L⟩ : Hp).into ++ Bs)) ∧ RetSlice (⟨G, L⟩ : Hp).into r Bs 1 w.1.length (w.1.map byteAV))
    (hL : L[site]? = some none) (hg : Good ⟨G, L⟩) : ∃ b B, SliceAt site b B 1 w.1.length (w.1.map byteAV) ∧ Ev prog (.op (.call f [site]) args ⟨G, L⟩) (.val (.tup [b, .v (.int .i64 w.2)]) ⟨G, L.set site B⟩) := by
  obtain ⟨r, Bs, he, hr⟩ := he
  have hlen : Bs.length ≤ 1 := by rcases hr.one with rfl | ⟨b, rfl, _⟩ <;> simp
  obtain ⟨B, hB, hat⟩ := retSlice_at (h := ⟨G, L⟩) (site := site) hr
  refine ⟨_, B, hat, .opCall hg.okBlks he ?_⟩
  rw [back_into (h := ⟨G, L⟩) (h' := ⟨G, L⟩) (sites := [site]) rfl rfl hg.refsOK (by simpa using hlen) (by simp) (by simp [free_of_get hL]) (by simp [free_of_get hL])]
  simp only [List.length_singleton, hB, putAll]
  rfl
theorem view_ren {a : AV} {esz len cells} (v : View ⟨[], []⟩ a esz len cells) : ∀ ρ, a.ren ρ = a := fun ρ => by
  rcases v.cases with ⟨rfl, _⟩ | ⟨nl, rfl⟩ | ⟨ℓ, m, off, cap, B, rfl, hB, _⟩
  · rfl
  · rfl
  · cases ℓ <;> simp [Hp.get] at hB
def stX (k : Int) (i : Nat) : SeenD := ⟨keyT k, roB [UInt8.ofNat i], roB [UInt8.ofNat i, 1]⟩
def stay (ks : List Int) : Nat → List SeenD
  | 0 => []
  | i + 1 => match ks[i]? with
    | some k => if kputE (stay ks i) (stX k i) = 0 then insK (stay ks i) (stX k i) else stay ks i
    | none => stay ks i
structure KInv (n : Nat) (ls : List SeenD) : Prop where
  right : rightK ls = true
  len : ls.length ≤ n
  small : ∀ y ∈ ls, y.k.length ≤ 300 ∧ y.q.b.length ≤ 300 ∧ y.t.b.length ≤ 300
theorem KInv.kq {n ls} (h : KInv n ls) : smallKQ ls := fun y hy => by have := (h.small y hy).2.1; unfold room; omega
theorem KInv.kt {n ls} (h : KInv n ls) : smallKT ls := fun y hy => by have := (h.small y hy).2.2; unfold room; omega
theorem KInv.kk {n ls} (h : KInv n ls) : smallK ls := fun y hy => by have := (h.small y hy).1; omega
theorem KInv.put {n ls} (h : KInv n ls) (hn : n < 4000) {x : SeenD} (hx : nameOK x.k = true) : (kputE ls x = 8 ∧ fstB (ksOf ls) x.k < (ksOf ls).length) ∨ (kputE ls x = 0 ∧ ¬ fstB (ksOf ls) x.k < (ksOf ls).length) := by
  have hl := h.len
  unfold kputE
  rw [h.right, hx]
  by_cases hf : fstB (ksOf ls) x.k < (ksOf ls).length
  · exact .inl ⟨by rw [if_pos (show (true && true) = true from rfl), if_pos hf], hf⟩
  · exact .inr ⟨by rw [if_pos (show (true && true) = true from rfl), if_neg hf, if_neg (by omega)], hf⟩
theorem KInv.ins {n ls} (h : KInv n ls) (hn : n < 4000) {x : SeenD} (hx : nameOK x.k = true) (hs : x.k.length ≤ 300 ∧ x.q.b.length ≤ 300 ∧ x.t.b.length ≤ 300) (hf : ¬ fstB (ksOf ls) x.k < (ksOf ls).length) : KInv (n + 1) (insK ls x) := by
  have hl := h.len
  refine ⟨rightK_ins h.right hx hf (by omega), by rw [insK_len]; omega, fun y hy => ?_⟩
  rcases insK_mem hy with hy | rfl
  · exact h.small y hy
  · exact hs
theorem KInv.clone {n ls} (h : KInv n ls) : KInv n (ls.map cloneS) := by
  refine ⟨by rw [rightK_clone]; exact h.right, by rw [List.length_map]; exact h.len, fun y hy => ?_⟩
  obtain ⟨z, hz, rfl⟩ := List.mem_map.1 hy
  have := h.small z hz
  simp only [cloneS, cloneY_b]; exact this
theorem KInv.up {n m ls} (h : KInv n ls) (hm : n ≤ m) : KInv m ls := ⟨h.right, Nat.le_trans h.len hm, h.small⟩
theorem KInv.nil : KInv 0 [] := ⟨rfl, Nat.le_refl _, by simp⟩
theorem stX_small (k : Int) (i : Nat) : (stX k i).k.length ≤ 300 ∧ (stX k i).q.b.length ≤ 300 ∧ (stX k i).t.b.length ≤ 300 := ⟨by show 3 ≤ 300; omega, by show 1 ≤ 300; omega, by show 2 ≤ 300; omega⟩
theorem stay_inv (ks : List Int) : ∀ i, i ≤ 4000 → KInv i (stay ks i)
  | 0, _ => KInv.nil
  | i + 1, hi => by
    have ih := stay_inv ks i (by omega)
    unfold stay
    split
    · rename_i k hk
      rcases ih.put (by omega) (x := stX k i) (keyT_name k) with ⟨h1, h2⟩ | ⟨h1, h2⟩
      · rw [h1, if_neg (by decide)]; exact ih.up (by omega)
      · rw [h1, if_pos rfl]; exact ih.ins (by omega) (keyT_name k) (stX_small k i) h2
    · exact ih.up (by omega)
structure Law26C (prog : String → Option IFn) : Prop extends Law26 prog where
  key : prog "haberdash/haberdashlaw26.key" = some f_law26_key
  sku : prog "haberdash/haberdashplay.Sku" = some f_play_Sku
  mod : prog "haberdash/haberdashplay.Mod" = some f_play_Mod
set_option maxRecDepth 10000 in
theorem stMove {env B0} {b1 b2 : Txt} {c : List AV} : mvSt [(3, 0)] ⟨env, ⟨[], [B0, fzB b1, fzB b2, some (dBlk c true false), none, none, none, none, none, none]⟩⟩ =
    some ⟨env.map (AV.ren (mvLab [(3, 0)])), ⟨[], [some (dBlk c true false), fzB b1, fzB b2, none, none, none, none, none, none, none]⟩⟩ := by
  unfold mvSt
  refine (if_pos (by rfl)).trans ?_
  rfl
set_option maxRecDepth 100000 in
set_option maxHeartbeats 4000000 in
theorem KeysStay_law (H : Law26C prog) (hp : prog "haberdash/haberdashlaw26.KeysStay" = some f_law26_KeysStay) {as} (h : IsAll [.slice (.int .i64), .int .i64, .slice (.int .u8)] as) :
    ∃ G2, Ev prog (.call "haberdash/haberdashlaw26.KeysStay" as []) (.ret (.v (.bool true)) G2) := by
  rcases as with _ | ⟨a0, _ | ⟨a1, _ | ⟨a2, _ | _⟩⟩⟩ <;> try (simp [IsAll] at h; done)
  obtain ⟨⟨c0, h0, rfl⟩, ⟨c1, h1, rfl⟩, ⟨c2, h2, rfl⟩, _⟩ := h
  obtain ⟨a, ks, rfl, va, hkm, hki⟩ := is_ints h0
  obtain ⟨more, rfl, hmo⟩ := is_i64 h1
  obtain ⟨q, rfl, hql⟩ := is_byt h2
  have hroom : room = 140737488355328 := rfl
  have hmx : maxLen = 9223372036854775807 := rfl
  refine ⟨[], call_of_fin hp ?_⟩
  have aw : ∀ G, G.length = 10 → Ev prog (.call "haberdash/haberdashlaw26.awake" [] G) (.ret (.v (.bool true)) G) := fun G h => awake26 H.toLaw26 (.inr (.inr (.inr h)))
  have lenA : ∀ {h : Hp}, prim h .lenSlice [a] = some (.v (.int .i64 (ks.length : Nat)), h) := fun {h} => (va h).lenSlice
  have lenQ : ∀ {h : Hp}, prim h .lenSlice [q.a] = some (.v (.int .i64 (q.b.length : Nat)), h) := fun {h} => (q.view h).lenSlice
  have ra : ∀ ρ, a.ren ρ = a := view_ren (va ⟨[], []⟩)
  have na : ∀ ks', noRef ks' a = true := fun ks' => noRef_out (View.out (va ⟨[], []⟩))
  have nq : ∀ ks', noRef ks' q.a = true := fun ks' => noRef_out (View.out (q.view ⟨[], []⟩))
  have dn : ∀ c, (none : Option Blk) = some c → c.labs = [] := fun c h => by cases h
  simp only [f_law26_KeysStay_B, enter, List.length_cons, List.length_nil, List.replicate, Nat.reduceAdd, Nat.reduceSub, List.cons_append, List.nil_append, Ty.arg, intAV]
  simp (disch := first | (simp only [DS, reduceCtorEq]; done) | omega) only [WS, St.guard, St.put, evalO, reduceCtorEq, reduceIte, Nat.reduceAdd, Nat.reduceEqDiff, lenA]
  by_cases h60 : (ks.length : Int) > 60
  · simp (disch := first | (simp only [DS, reduceCtorEq]; done) | omega) only [WS, St.guard, St.put, evalO, reduceCtorEq, reduceIte, Nat.reduceAdd, Nat.reduceEqDiff, h60, decide_true]
    refine (WP_p (x := .bool true) (by exact aw _ rfl) (by exact trivial)).2 ?_
    simp (disch := first | (simp only [DS, reduceCtorEq]; done) | omega) only [WS, St.guard, St.put, evalO, reduceCtorEq, reduceIte, Nat.reduceAdd, Nat.reduceEqDiff, fin_tmp, leave_v]
    simp
  simp (disch := first | (simp only [DS, reduceCtorEq]; done) | omega) only [WS, St.guard, St.put, evalO, reduceCtorEq, reduceIte, Nat.reduceAdd, Nat.reduceEqDiff, h60, decide_false, lenQ]
  by_cases hq1 : (q.b.length : Int) > 100
  · simp (disch := first | (simp only [DS, reduceCtorEq]; done) | omega) only [WS, St.guard, St.put, evalO, reduceCtorEq, reduceIte, Nat.reduceAdd, Nat.reduceEqDiff, hq1, decide_true]
    refine (WP_p (x := .bool true) (by exact aw _ rfl) (by exact trivial)).2 ?_
    simp (disch := first | (simp only [DS, reduceCtorEq]; done) | omega) only [WS, St.guard, St.put, evalO, reduceCtorEq, reduceIte, Nat.reduceAdd, Nat.reduceEqDiff, fin_tmp, leave_v]
    simp
  simp (disch := first | (simp only [DS, reduceCtorEq]; done) | omega) only [WS, St.guard, St.put, evalO, reduceCtorEq, reduceIte, Nat.reduceAdd, Nat.reduceEqDiff, hq1, decide_false]
  refine WC_countP (fun i => True) (fun i => ⟨f_law26_KeysStay_H0 a (.v (.int .i64 more)) q.a (kU 0 (stay ks i)) (.v (.int .i64 (i : Nat))), ⟨[], [kK (stay ks i), none, none, none, none, none, none, none, none, none]⟩⟩) ks.length ?_ trivial (fun i hi _ => ?_) (fun _ => ?_)
  · exact clear_fre (by simp only [clear_nil, List.foldl_cons, List.foldl_nil, Option.some.injEq, LS, reduceCtorEq, reduceIte, Nat.reduceAdd] <;> rfl) (by rfl) (by simp only [f_law26_KeysStay_H0, List.all_cons, List.all_nil, noRef_v, noRef_dead, noRef_own, noRef_ptr, noRef_nil, Bool.and_true, Bool.true_and, Bool.and_self, List.contains_cons, List.contains_nil, Bool.or_false, Nat.reduceBEq, Bool.not_false, na, nq]; rfl) (by rfl)
  · have hlt' : (i : Int) < (ks.length : Int) := by omega
    have hk : ks[i]? = some ks[i] := List.getElem?_eq_getElem hi
    have hkb := hki ks[i] (List.getElem_mem hi)
    have vl := fun h : Hp => (va h).load1 (i := i) (x := intAV ks[i]) (by rw [List.getElem?_map, hk]; rfl)
    have vi := fun h : Hp => (va h).index (k := .i64) hi
    have hIn := stay_inv ks i (by omega)
    have hnext : stay ks (i + 1) = if kputE (stay ks i) (stX ks[i] i) = 0 then insK (stay ks i) (stX ks[i] i) else stay ks i := by
      conv => lhs; unfold stay
      rw [hk]
    generalize hls : stay ks i = ls at *
    generalize ks[i] = k at *
    have g0 : ∀ A B C D : Option Blk, (∀ c, A = some c → c.labs = []) → (∀ c, B = some c → c.labs = []) → (∀ c, C = some c → c.labs = []) → (∀ c, D = some c → c.labs = []) → Good ⟨[], [A, B, C, D, none, none, none, none, none, none]⟩ := fun A B C D hA hB hC hD => goodD hA (goodD hB (goodD hC (goodD hD trivial)))
    have b1 : prim ⟨[], [kK ls, none, none, none, none, none, none, none, none, none]⟩ (.buildSlice 1 false 1 1 [.int .u8 0] [(0, 1)]) [.v (u8 (UInt8.ofNat i))] = some (.own (.l 1) 1 0 1 1 (some 1), ⟨[], [kK ls, some (dBlk [byteAV (UInt8.ofNat i)] false false), none, none, none, none, none, none, none, none]⟩) := rfl
    have b2 : ∀ A, prim ⟨[], [kK ls, A, none, none, none, none, none, none, none, none]⟩ (.buildSlice 2 false 1 2 [.int .u8 0] [(0, 1), (1, 1)]) [.v (u8 (UInt8.ofNat i)), .v (.int .u8 1)] = some (.own (.l 2) 2 0 2 1 (some 2), ⟨[], [kK ls, A, some (dBlk [byteAV (UInt8.ofNat i), byteAV 1] false false), none, none, none, none, none, none, none]⟩) := fun A => rfl
    have b3 : prim ⟨[], [kK ls, some (dBlk [byteAV (UInt8.ofNat i)] false false), some (dBlk [byteAV (UInt8.ofNat i), byteAV 1] false false), none, none, none, none, none, none, none]⟩ (.buildF [.string ⟨#[]⟩, .slice none 0 0, .slice none 0 0] [(0, 1), (1, 1), (2, 1)])
        [.v (str (keyT k)), .own (.l 1) 1 0 1 1 (some 1), .own (.l 2) 2 0 2 1 (some 2)] = some (.agg (stX k i).cells, ⟨[], [kK ls, fzB [UInt8.ofNat i], fzB [UInt8.ofNat i, 1], none, none, none, none, none, none, none]⟩) := rfl
    have ci : ∀ {h : Hp}, prim h (.convInt .u8) [.v (.int .i64 (i : Int))] = some (.v (u8 (UInt8.ofNat i)), h) := fun {h} => cvU8
    simp (disch := first | (simp only [DS, reduceCtorEq]; done) | omega) only [f_law26_KeysStay_L0, f_law26_KeysStay_H0, WS, St.guard, St.put, evalO, reduceCtorEq, reduceIte, Nat.reduceAdd, Nat.reduceEqDiff, lenA, hlt', decide_true, vi, vl, intAV]
    refine (WP_p (x := str (keyT k)) (by exact key_spec H.key H.sku H.mod hkb) (by exact g0 _ _ _ _ kK_lab dn dn dn)).2 ?_
    simp (disch := first | (simp only [DS, reduceCtorEq]; done) | omega) only [WO_nil, WO_cons, WG_true, WS, St.guard, St.put, evalO, reduceCtorEq, reduceIte, Nat.reduceAdd, Nat.reduceEqDiff, cvU8, b1, b2, b3]
    have ne : nameOK (stX k i).k = true := keyT_name k
    have sx := stX_small k i
    obtain ⟨u, B, ev, K⟩ := op_put (prog := prog) (f := "haberdash/haberdashref25.Put") (args := [kU 0 ls, .agg (stX k i).cells]) (site := 3) (G := []) (L := [kK ls, fzB [UInt8.ofNat i], fzB [UInt8.ofNat i, 1], none, none, none, none, none, none, none]) (us := kputR ls (stX k i)) (e := kputE ls (stX k i))
      (by rw [List.map_cons, List.map_cons, List.map_nil, agg_ren]; exact refPut_spec H.toKeysLib2 ((kSite 0 ls).into rfl).1 (by have := hIn.len; omega) (fun y hy => by
        rcases List.mem_cons.1 hy with rfl | hy
        · exact (by have := sx.1; omega)
        · exact hIn.kk y hy)) rfl (g0 _ _ _ _ kK_lab fzB_lab fzB_lab dn)
    refine WP_of (by exact ev) ?_
    rcases hIn.put (by omega) (x := stX k i) ne with ⟨he, hf⟩ | ⟨he, hf⟩
    · have hR : kputR ls (stX k i) = [] := by unfold kputR; rw [he, if_neg (by decide)]
      rw [hR] at K
      rw [he, if_neg (by decide)] at hnext
      rw [he]
      obtain ⟨rfl, rfl⟩ : u = .v (.slice none 0 0) ∧ B = none := by
        rcases K with ⟨_, h1, h2⟩ | ⟨h0, _⟩
        · exact ⟨h1, h2⟩
        · exact absurd rfl h0
      simp (disch := first | (simp only [DS, reduceCtorEq]; done) | omega) only [WS, St.guard, St.put, evalO, reduceCtorEq, reduceIte, Nat.reduceAdd, Nat.reduceEqDiff, vBin_eql, show ((8 : Int) == 0) = false from rfl, vBin_add_i64]
      rw [hnext]
      exact ⟨clear_fre (by simp only [clear_nil, List.foldl_cons, List.foldl_nil, Option.some.injEq, LS, reduceCtorEq, reduceIte, Nat.reduceAdd] <;> rfl) (by rfl) (by simp only [List.all_cons, List.all_nil, noRef_v, noRef_dead, noRef_own, noRef_ptr, noRef_nil, Bool.and_true, Bool.true_and, Bool.and_self, List.contains_cons, List.contains_nil, Bool.or_false, Nat.reduceBEq, Bool.not_false, na, nq, (kSite 0 ls).noRef (ks := [1, 2, 3]) rfl]) (by simp only [List.all_cons, List.all_nil, kK_ref, Bool.and_true, Bool.true_and]; rfl), trivial⟩
    · have hR : kputR ls (stX k i) = insK ls (stX k i) := by unfold kputR; rw [he, if_pos rfl]
      have h0 : insK ls (stX k i) ≠ [] := fun h => by have := congrArg List.length h; rw [insK_len] at this; simp at this
      rw [hR] at K
      rw [he, if_pos rfl] at hnext
      rw [he]
      obtain ⟨rfl, rfl⟩ : u = .own (.l 3) ((insK ls (stX k i)).length * 3) 0 (insK ls (stX k i)).length 3 none ∧ B = some (dBlk (seenE.row (insK ls (stX k i))) true false) := by
        rcases K with ⟨h1, _⟩ | ⟨_, h1, h2⟩
        · exact absurd h1 h0
        · exact ⟨h1, h2⟩
      simp (disch := first | (simp only [DS, reduceCtorEq]; done) | omega) only [WS, St.guard, St.put, evalO, reduceCtorEq, reduceIte, Nat.reduceAdd, Nat.reduceEqDiff, vBin_eql, show ((0 : Int) == 0) = true from rfl, WC_post, WK_mv_normal]
      refine ⟨_, stMove, ?_⟩
      simp only [List.map_cons, List.map_nil]
      have ro : AV.ren (mvLab [(3, 0)]) (.own (.l 3) ((insK ls (stX k i)).length * 3) 0 (insK ls (stX k i)).length 3 none) = kU 0 (insK ls (stX k i)) := by unfold kU; rw [if_neg h0]; rfl
      have eK : some (dBlk (seenE.row (insK ls (stX k i))) true false) = kK (insK ls (stX k i)) := by unfold kK; rw [if_neg h0]
      simp (disch := first | (simp only [DS, reduceCtorEq]; done) | omega) only [WS, St.guard, St.put, evalO, reduceCtorEq, reduceIte, Nat.reduceAdd, Nat.reduceEqDiff, ro, ra, q.ren, ren_val, vBin_add_i64, eK]
      rw [hnext]
      exact ⟨clear_fre (by simp only [clear_nil, List.foldl_cons, List.foldl_nil, Option.some.injEq, LS, reduceCtorEq, reduceIte, Nat.reduceAdd] <;> rfl) (by rfl) (by simp only [List.all_cons, List.all_nil, noRef_v, noRef_dead, noRef_own, noRef_ptr, noRef_nil, Bool.and_true, Bool.true_and, Bool.and_self, List.contains_cons, List.contains_nil, Bool.or_false, Nat.reduceBEq, Bool.not_false, na, nq, (kSite 0 (insK ls (stX k i))).noRef (ks := [1, 2, 3]) rfl]) (by simp only [List.all_cons, List.all_nil, kK_ref, Bool.and_true, Bool.true_and]; rfl), trivial⟩
  · have hlt' : ¬ ((ks.length : Int) < (ks.length : Int)) := by omega
    have hIn := stay_inv ks ks.length (by omega)
    generalize stay ks ks.length = ls at *
    have hll := hIn.len
    have gL : ∀ A B C D E F I : Option Blk, (∀ c, A = some c → c.labs = []) → (∀ c, B = some c → c.labs = []) → (∀ c, C = some c → c.labs = []) → (∀ c, D = some c → c.labs = []) → (∀ c, E = some c → c.labs = []) → (∀ c, F = some c → c.labs = []) → (∀ c, I = some c → c.labs = []) →
        Good ⟨[], [A, none, none, none, B, C, D, E, F, I]⟩ := fun A B C D E F I hA hB hC hD hE hF hI => goodD hA (goodD dn (goodD dn (goodD dn (goodD hB (goodD hC (goodD hD (goodD hE (goodD hF (goodD hI trivial)))))))))
    have b4 : prim ⟨[], [kK ls, none, none, none, none, none, none, none, none, none]⟩ (.buildSlice 4 false 1 1 [.int .u8 0] [(0, 1)]) [.v (.int .u8 9)] = some (.own (.l 4) 1 0 1 1 (some 1), ⟨[], [kK ls, none, none, none, some (dBlk [byteAV 9] false false), none, none, none, none, none]⟩) := rfl
    obtain ⟨x, hx⟩ : ∃ x : SeenD, x = ⟨keyT more, q, roB [9]⟩ := ⟨_, rfl⟩
    have f9 : (⟨[], [kK ls, none, none, none, some (dBlk [byteAV 9] false false), none, none, none, none, none]⟩ : Hp).freeze (.own (.l 4) 1 0 1 1 (some 1)) = some ((roB [9]).a, ⟨[], [kK ls, none, none, none, fzB [9], none, none, none, none, none]⟩) := rfl
    have b5 : prim ⟨[], [kK ls, none, none, none, some (dBlk [byteAV 9] false false), none, none, none, none, none]⟩ (.buildF [.string ⟨#[]⟩, .slice none 0 0, .slice none 0 0] [(0, 1), (1, 1), (2, 1)]) [.v (str (keyT more)), q.a, .own (.l 4) 1 0 1 1 (some 1)] =
        some (.agg x.cells, ⟨[], [kK ls, none, none, none, fzB [9], none, none, none, none, none]⟩) := by
      rw [buildF3 (q.freeze _) f9 q.cellsOf (roB [9]).cellsOf, hx]; rfl
    have hxn : nameOK x.k = true := by rw [hx]; exact keyT_name more
    have hxk : x.k = keyT more := by rw [hx]
    have hxq : x.q = q := by rw [hx]
    have hxt : x.t.b = [9] := by rw [hx]; rfl
    have hxs : x.k.length ≤ 300 ∧ x.q.b.length ≤ 300 ∧ x.t.b.length ≤ 300 := by rw [hxq, hxt, hxk]; exact ⟨by rw [keyT_len]; omega, by omega, by simp⟩
    have kx : ∀ {P : SeenD → Prop}, P x → (∀ y ∈ ls, P y) → ∀ y ∈ x :: ls, P y := fun h1 h2 y hy => by
      rcases List.mem_cons.1 hy with rfl | hy
      · exact h1
      · exact h2 y hy
    simp (disch := first | (simp only [DS, reduceCtorEq]; done) | omega) only [f_law26_KeysStay_L0, f_law26_KeysStay_H0, WS, St.guard, St.put, evalO, reduceCtorEq, reduceIte, Nat.reduceAdd, Nat.reduceEqDiff, lenA, hlt', decide_false]
    refine (WP_p (x := str (keyT more)) (by exact key_spec H.key H.sku H.mod hmo) (by exact gL _ _ _ _ _ _ _ kK_lab dn dn dn dn dn dn)).2 ?_
    simp (disch := first | (simp only [DS, reduceCtorEq]; done) | omega) only [WS, St.guard, St.put, evalO, reduceCtorEq, reduceIte, Nat.reduceAdd, Nat.reduceEqDiff, b4, b5]
    obtain ⟨sv, sn⟩ := (kSite 0 ls).into (G := []) (L := [kK ls, none, none, none, fzB [9], none, none, none, none, none]) rfl
    obtain ⟨nb, sn1, sn2⟩ := sn
    obtain ⟨u, B, ev, K⟩ := op_put (prog := prog) (f := "haberdash/keys.Put") (args := [kU 0 ls, .agg x.cells]) (site := 5) (G := []) (L := [kK ls, none, none, none, fzB [9], none, none, none, none, none]) (us := kputP ls x) (e := kputE ls x)
      (by rw [List.map_cons, List.map_cons, List.map_nil, agg_ren]; exact keysPut_spec H.toKeysLib2 sv sn1 sn2 (by omega) (kx (by omega) hIn.kq) (kx (by omega) hIn.kt)) rfl (gL _ _ _ _ _ _ _ kK_lab fzB_lab dn dn dn dn dn)
    refine WP_of (by exact ev) ?_
    have lenU : ∀ A B' C D E F I J K', prim ⟨[], [A, B', C, D, E, B, F, I, J, K']⟩ .lenSlice [u] = some (.v (.int .i64 ((kputP ls x).length : Nat)), ⟨[], [A, B', C, D, E, B, F, I, J, K']⟩) := fun A B' C D E F I J K' => (K.view (L := [A, B', C, D, E, B, F, I, J, K']) rfl).lenSlice
    have lenL : ∀ A B' C D E F I J K', prim ⟨[], [kK ls, A, B', C, D, E, F, I, J, K']⟩ .lenSlice [kU 0 ls] = some (.v (.int .i64 (ls.length : Nat)), ⟨[], [kK ls, A, B', C, D, E, F, I, J, K']⟩) := fun A B' C D E F I J K' => ((kSite 0 ls).view (L := [kK ls, A, B', C, D, E, F, I, J, K']) rfl).lenSlice
    rcases hIn.put (by omega) (x := x) hxn with ⟨he, hf⟩ | ⟨he, hf⟩
    · have hP : kputP ls x = [] := by unfold kputP; rw [he, if_neg (by decide)]
      rw [he]
      simp (disch := first | (simp only [DS, reduceCtorEq]; done) | omega) only [WS, St.guard, St.put, evalO, reduceCtorEq, reduceIte, Nat.reduceAdd, Nat.reduceEqDiff, vBin_eql, show ((8 : Int) == 8) = true from rfl]
      refine (WP_p (x := str (keyT more)) (by exact key_spec H.key H.sku H.mod hmo) (by exact gL _ _ _ _ _ _ _ kK_lab fzB_lab K.lab dn dn dn dn)).2 ?_
      simp (disch := first | (simp only [DS, reduceCtorEq]; done) | omega) only [WS, St.guard, St.put, evalO, reduceCtorEq, reduceIte, Nat.reduceAdd, Nat.reduceEqDiff]
      obtain ⟨w, hw⟩ : ∃ w, w = askK ls (keyT more) q.b := ⟨_, rfl⟩
      have hw0 : w.2 ≠ 0 := by rw [hw, ← hxk]; exact ask_old hf
      obtain ⟨b, B6, hat, ev6⟩ := op_ask (prog := prog) (f := "haberdash/haberdashref25.Ask") (args := [kU 0 ls, .v (str (keyT more)), q.a]) (site := 6) (G := []) (L := [kK ls, none, none, none, fzB [9], B, none, none, none, none]) (w := w) (by
        rw [List.map_cons, List.map_cons, List.map_cons, List.map_nil, q.ren, str_ren, hw]
        exact refAsk_spec H.toKeysLib ((kSite 0 ls).into rfl).1 (fun L => q.view _) (by omega) hIn.kt) rfl (gL _ _ _ _ _ _ _ kK_lab fzB_lab K.lab dn dn dn dn)
      refine WP_of (by exact ev6) ?_
      simp (disch := first | (simp only [DS, reduceCtorEq]; done) | omega) only [WS, St.guard, St.put, evalO, reduceCtorEq, reduceIte, Nat.reduceAdd, Nat.reduceEqDiff]
      refine (WP_p (x := .bool true) (by exact aw _ rfl) (by exact gL _ _ _ _ _ _ _ kK_lab fzB_lab K.lab hat.data dn dn dn)).2 ?_
      have hne : (w.2 != 0) = true := by rw [bne_iff_ne]; exact hw0
      simp (disch := first | (simp only [DS, reduceCtorEq]; done) | omega) only [WS, St.guard, St.put, evalO, reduceCtorEq, reduceIte, Nat.reduceAdd, Nat.reduceEqDiff, vBin_neq, hne, lenU, hP, vBin_eql, List.length_nil, show ((((0 : Nat) : Int)) == 0) = true from rfl, show ((0 : Int) == 0) = true from rfl, fin_tmp, leave_v]
      simp
    · have hP : kputP ls x = (insK ls x).map cloneS := by unfold kputP; rw [he, if_pos rfl]
      have hPl : (kputP ls x).length = ls.length + 1 := by rw [hP, List.length_map, insK_len]
      have hKm : KInv (ks.length + 1) (kputP ls x) := by rw [hP]; exact (hIn.ins (by omega) hxn hxs hf).clone
      have hrise := rightK_rise hKm.right
      have hfind : ∀ y, (y ∈ ls ∨ y = x) → ∀ bq, bq = y.q.b → askK (kputP ls x) y.k bq = (y.t.b, 1) := fun y hy bq hbq => by
        obtain ⟨i, hi⟩ : ∃ i : Nat, (insK ls x)[i]? = some y := by
          rcases hy with hy | rfl
          · exact insK_has hy
          · exact ⟨_, insK_at⟩
        have hi2 : (kputP ls x)[i]? = some (cloneS y) := by rw [hP, List.getElem?_map, hi]; rfl
        have := ask_at (bq := bq) hrise hi2
        have ek : (cloneS y).k = y.k := rfl
        have eq : (cloneS y).q.b = y.q.b := cloneY_b y.q
        have et : (cloneS y).t.b = y.t.b := cloneY_b y.t
        rw [ek, eq, et, if_pos hbq.symm] at this
        exact this
      rw [he]
      simp (disch := first | (simp only [DS, reduceCtorEq]; done) | omega) only [WS, St.guard, St.put, evalO, reduceCtorEq, reduceIte, Nat.reduceAdd, Nat.reduceEqDiff, vBin_eql, show ((0 : Int) == 8) = false from rfl]
      refine (WP_p (x := .bool true) (by exact aw _ rfl) (by exact gL _ _ _ _ _ _ _ kK_lab fzB_lab K.lab dn dn dn dn)).2 ?_
      have e1 : ((((ls.length + 1 : Nat)) : Int) != (ls.length : Int) + 1) = false := by rw [bne_eq_false_iff_eq]; omega
      have a1 : vBin .add (.int .i64 (ls.length : Int)) (.int .i64 1) = some (.int .i64 ((ls.length : Int) + 1)) := by
        simp only [vBin]; rw [if_neg (by simp)]; congr 2; rw [IntKind.wrap_i64]; omega
      simp (disch := first | (simp only [DS, reduceCtorEq]; done) | omega) only [WS, St.guard, St.put, evalO, reduceCtorEq, reduceIte, Nat.reduceAdd, Nat.reduceEqDiff, vBin_neq, show ((0 : Int) != 0) = false from rfl, lenU, hPl, lenL, a1, e1]
      have nu : ∀ ks', ks'.contains 5 = false → noRef ks' u = true := fun ks' h => K.noRef h
      have nl : ∀ ks', ks'.contains 0 = false → noRef ks' (kU 0 ls) = true := fun ks' h => (kSite 0 ls).noRef h
      have rB : ∀ ks', blkNoRef ks' B = true := fun ks' => by
        unfold blkNoRef
        cases h : B with
        | none => rfl
        | some C => simp only; rw [K.lab C h]; rfl
      refine WC_countP (fun i => True) (fun i => ⟨f_law26_KeysStay_H1 (.v (.int .i64 more)) q.a (kU 0 ls) u (.v (.int .i64 (i : Nat))), ⟨[], [kK ls, none, none, none, fzB [9], B, none, none, none, none]⟩⟩) ls.length ?_ trivial (fun i hi _ => ?_) (fun _ => ?_)
      · exact clear_fre (by simp only [clear_nil, List.foldl_cons, List.foldl_nil, Option.some.injEq, LS, reduceCtorEq, reduceIte, Nat.reduceAdd] <;> rfl) (by rfl) (by simp only [f_law26_KeysStay_H1, List.all_cons, List.all_nil, noRef_v, noRef_dead, noRef_own, noRef_ptr, noRef_nil, Bool.and_true, Bool.true_and, Bool.and_self, List.contains_cons, List.contains_nil, Bool.or_false, Nat.reduceBEq, Bool.not_false, nq, nu [7] rfl, nl [7] rfl]) (by simp only [List.all_cons, List.all_nil, kK_ref, rB, Bool.and_true, Bool.true_and]; rfl)
      · have hlt' : (i : Int) < (ls.length : Int) := by omega
        have hy : ls[i]? = some ls[i] := List.getElem?_eq_getElem hi
        generalize ls[i] = y at *
        have hm := List.mem_of_getElem? hy
        have qq := fun A B' C D E F I J K' => sn_at ((kSite 0 ls).view (G := []) (L := [kK ls, A, B', C, D, E, F, I, J, K']) rfl) hy
        simp (disch := first | (simp only [DS, reduceCtorEq]; done) | omega) only [f_law26_KeysStay_L1, f_law26_KeysStay_H1, WS, St.guard, St.put, evalO, reduceCtorEq, reduceIte, Nat.reduceAdd, Nat.reduceEqDiff, lenL, hlt', decide_true, (qq _ _ _ _ _ _ _ _ _).ix, (qq _ _ _ _ _ _ _ _ _).f0, (qq _ _ _ _ _ _ _ _ _).l0, (qq _ _ _ _ _ _ _ _ _).f1, (qq _ _ _ _ _ _ _ _ _).l1]
        have hw := hfind y (.inl hm) y.q.b rfl
        obtain ⟨b, B7, hat, ev7⟩ := op_ask (prog := prog) (f := "haberdash/keys.Ask") (args := [u, .v (str y.k), y.q.a]) (site := 7) (G := []) (L := [kK ls, none, none, none, fzB [9], B, none, none, none, none]) (w := (y.t.b, 1)) (by
          rw [List.map_cons, List.map_cons, List.map_cons, List.map_nil, y.q.ren, str_ren, ← hw]
          exact keysAsk_spec H.toKeysLib (K.into rfl).1 (fun L => y.q.view _) (by omega) hKm.kt) rfl (gL _ _ _ _ _ _ _ kK_lab fzB_lab K.lab dn dn dn dn)
        refine WDP_of (a := .tup [b, .v (.int .i64 1)]) (h' := ⟨[], [kK ls, none, none, none, fzB [9], B, none, B7, none, none]⟩) (by exact ev7) (by exact gL _ _ _ _ _ _ _ kK_lab fzB_lab K.lab dn dn dn dn) (by exact gL _ _ _ _ _ _ _ kK_lab fzB_lab K.lab dn hat.data dn dn) rfl (by exact rfl) ?_
        simp (disch := first | (simp only [DS, reduceCtorEq]; done) | omega) only [WS, St.guard, St.put, evalO, reduceCtorEq, reduceIte, Nat.reduceAdd, Nat.reduceEqDiff, vBin_neq, show ((1 : Int) != 1) = false from rfl, (qq _ _ _ _ _ _ _ _ _).ix, (qq _ _ _ _ _ _ _ _ _).f2, (qq _ _ _ _ _ _ _ _ _).l2]
        refine (WP_p (x := .bool true) (by
          have : decide (y.t.b = y.t.b) = true := decide_eq_true rfl
          rw [← this, List.map_cons, List.map_cons, List.map_nil, y.t.ren]
          exact Bytes_spec H.bytes ((hat.view (G := []) (L := [kK ls, none, none, none, fzB [9], B, none, B7, none, none]) rfl).into bytes_lfs) (fun L => y.t.view _)) (by exact gL _ _ _ _ _ _ _ kK_lab fzB_lab K.lab dn hat.data dn dn)).2 ?_
        simp (disch := first | (simp only [DS, reduceCtorEq]; done) | omega) only [WS, St.guard, St.put, evalO, reduceCtorEq, reduceIte, Nat.reduceAdd, Nat.reduceEqDiff, vBin_add_i64]
        exact ⟨clear_fre (by simp only [clear_nil, List.foldl_cons, List.foldl_nil, Option.some.injEq, LS, reduceCtorEq, reduceIte, Nat.reduceAdd] <;> rfl) (by rfl) (by simp only [List.all_cons, List.all_nil, noRef_v, noRef_dead, noRef_own, noRef_ptr, noRef_nil, Bool.and_true, Bool.true_and, Bool.and_self, List.contains_cons, List.contains_nil, Bool.or_false, Nat.reduceBEq, Bool.not_false, nq, nu [7] rfl, nl [7] rfl]) (by simp only [List.all_cons, List.all_nil, kK_ref, rB, Bool.and_true, Bool.true_and]; rfl), trivial⟩
      · have hlt' : ¬ ((ls.length : Int) < (ls.length : Int)) := by omega
        simp (disch := first | (simp only [DS, reduceCtorEq]; done) | omega) only [f_law26_KeysStay_L1, f_law26_KeysStay_H1, WS, St.guard, St.put, evalO, reduceCtorEq, reduceIte, Nat.reduceAdd, Nat.reduceEqDiff, lenL, hlt', decide_false]
        refine (WP_p (x := str (keyT more)) (by exact key_spec H.key H.sku H.mod hmo) (by exact gL _ _ _ _ _ _ _ kK_lab fzB_lab K.lab dn dn dn dn)).2 ?_
        simp (disch := first | (simp only [DS, reduceCtorEq]; done) | omega) only [WS, St.guard, St.put, evalO, reduceCtorEq, reduceIte, Nat.reduceAdd, Nat.reduceEqDiff]
        have hw := hfind x (.inr rfl) q.b (by rw [hxq])
        rw [hxk, hxt] at hw
        obtain ⟨b, B8, hat, ev8⟩ := op_ask (prog := prog) (f := "haberdash/keys.Ask") (args := [u, .v (str (keyT more)), q.a]) (site := 8) (G := []) (L := [kK ls, none, none, none, fzB [9], B, none, none, none, none]) (w := ([9], 1)) (by
          rw [List.map_cons, List.map_cons, List.map_cons, List.map_nil, q.ren, str_ren, ← hw]
          exact keysAsk_spec H.toKeysLib (K.into rfl).1 (fun L => q.view _) (by omega) hKm.kt) rfl (gL _ _ _ _ _ _ _ kK_lab fzB_lab K.lab dn dn dn dn)
        refine WP_of (by exact ev8) ?_
        have b9 : prim ⟨[], [kK ls, none, none, none, fzB [9], B, none, none, B8, none]⟩ (.buildSlice 9 false 1 1 [.int .u8 0] [(0, 1)]) [.v (.int .u8 9)] = some (.own (.l 9) 1 0 1 1 (some 1), ⟨[], [kK ls, none, none, none, fzB [9], B, none, none, B8, some (dBlk [byteAV 9] false false)]⟩) := rfl
        simp (disch := first | (simp only [DS, reduceCtorEq]; done) | omega) only [WS, St.guard, St.put, evalO, reduceCtorEq, reduceIte, Nat.reduceAdd, Nat.reduceEqDiff, vBin_eql, show ((1 : Int) == 1) = true from rfl, b9]
        have v9 : View ⟨[], [kK ls, none, none, none, fzB [9], B, none, none, B8, some (dBlk [byteAV 9] false false)]⟩ (.own (.l 9) 1 0 1 1 (some 1)) 1 ([9] : Txt).length (([9] : Txt).map byteAV) := own_view1 (j := 9) rfl rfl (by simp)
        refine (WP_p (x := .bool true) (by
          have : decide (([9] : Txt) = [9]) = true := decide_eq_true rfl
          rw [← this]
          exact Bytes_spec H.bytes ((hat.view (G := []) (L := [kK ls, none, none, none, fzB [9], B, none, none, B8, some (dBlk [byteAV 9] false false)]) rfl).into bytes_lfs) (v9.into bytes_lfs)) (by exact gL _ _ _ _ _ _ _ kK_lab fzB_lab K.lab dn dn hat.data dBlk_l)).2 ?_
        simp (disch := first | (simp only [DS, reduceCtorEq]; done) | omega) only [WS, St.guard, St.put, evalO, reduceCtorEq, reduceIte, Nat.reduceAdd, Nat.reduceEqDiff, fin_tmp, leave_v]
        simp
end Go.AM
