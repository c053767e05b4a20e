import Derived.Test.YtlcbfbopnegmnaaLawPackB
set_option linter.unusedVariables false
set_option linter.unusedSimpArgs false
namespace Go.AM
variable {prog : String → Option IFn}
theorem big_byte {v : Nat} : (UInt8.ofNat (v % 128 + 128)).toNat = v % 128 + 128 := by rw [UInt8.toNat_ofNat']; omega
theorem small_byte {v : Nat} (h : v < 128) : (UInt8.ofNat v).toNat = v := by rw [UInt8.toNat_ofNat']; omega
theorem nlen_numB : ∀ (k : Nat) {v i : Nat} {r : Txt}, (numB v).length ≤ k → i + (numB v).length ≤ 9 → nlen (numB v ++ r) i = ((i + (numB v).length : Nat) : Int)
  | 0, v, i, r, h, _ => by have := numB_pos (v := v); omega
  | k + 1, v, i, r, h, h9 => by
    by_cases hv : v < 128
    · rw [numB_small hv]
      simp only [List.singleton_append, nlen, small_byte hv, hv, if_true, List.length_singleton]; rfl
    · rw [numB_big hv] at h h9 ⊢
      simp only [List.length_cons] at h h9 ⊢
      have hp := numB_pos (v := v / 128)
      simp only [List.cons_append, nlen, big_byte]
      rw [if_neg (by omega), if_neg (by omega), nlen_numB k (by omega) (by omega)]
      congr 1; omega
def goOn (cs : Txt) : Prop := ∀ c ∈ cs, 128 ≤ c.toNat
theorem nlen_short : ∀ {cs : Txt} {i : Nat}, goOn cs → i + cs.length ≤ 8 → nlen cs i = -1
  | [], _, _, _ => rfl
  | c :: cs, i, h, h8 => by
    have hc := h c (by simp)
    simp only [List.length_cons] at h8
    unfold nlen
    rw [if_neg (by omega), if_neg (by omega)]
    exact nlen_short (fun d hd => h d (by simp [hd])) (by omega)
theorem nlen_zero : ∀ {cs : Txt} {i : Nat}, goOn cs → i ≤ 8 → nlen (cs ++ [0]) i = if i + cs.length ≤ 8 then ((i + cs.length + 1 : Nat) : Int) else 0
  | [], i, _, h8 => by
    rw [if_pos (by simpa using h8)]
    simp only [List.nil_append, nlen, List.length_nil]
    rfl
  | c :: cs, i, h, h8 => by
    have hc := h c (by simp)
    simp only [List.cons_append, nlen, List.length_cons]
    rw [if_neg (by omega)]
    by_cases hi : i = 8
    · rw [if_pos hi, if_neg (by omega)]
    · rw [if_neg hi, nlen_zero (fun d hd => h d (by simp [hd])) (by omega)]
      by_cases h2 : i + 1 + cs.length ≤ 8
      · rw [if_pos h2, if_pos (by omega)]; congr 1; omega
      · rw [if_neg h2, if_neg (by omega)]
theorem numB_goOn : ∀ (n : Nat) {v : Nat}, v ≤ n → ∀ {k : Nat}, k < (numB v).length → goOn ((numB v).take k)
  | n, v, hv, 0, h => by simp [goOn]
  | n, v, hv, k + 1, h => by
    by_cases h1 : v < 128
    · rw [numB_small h1] at h; simp at h
    · cases n with
      | zero => omega
      | succ n =>
        rw [numB_big h1] at h ⊢
        rw [List.take_succ_cons]
        intro c hc
        rcases List.mem_cons.1 hc with rfl | hc
        · rw [big_byte]; omega
        · exact numB_goOn n (v := v / 128) (by omega) (k := k) (by simpa using h) c hc
def nvL : Txt → Nat
  | [] => 0
  | c :: cs => c.toNat % 128 + 128 * nvL cs
theorem nvL_numB : ∀ (n : Nat) {v : Nat}, v ≤ n → nvL (numB v) = v
  | n, v, h => by
    by_cases hv : v < 128
    · rw [numB_small hv]; simp only [nvL, small_byte hv]; omega
    · cases n with
      | zero => omega
      | succ n =>
        rw [numB_big hv]
        simp only [nvL, big_byte]
        rw [nvL_numB n (v := v / 128) (by omega)]
        omega
theorem nvL_app : ∀ (xs : Txt) (c : UInt8), nvL (xs ++ [c]) = nvL xs + c.toNat % 128 * 2 ^ (7 * xs.length)
  | [], c => by simp [nvL]
  | x :: xs, c => by
    simp only [List.cons_append, nvL, nvL_app xs c, List.length_cons]
    have : 2 ^ (7 * (xs.length + 1)) = 128 * 2 ^ (7 * xs.length) := by rw [show 7 * (xs.length + 1) = 7 + 7 * xs.length by omega, Nat.pow_add]
    rw [this, Nat.mul_add, ← Nat.mul_assoc (c.toNat % 128) 128, Nat.mul_comm (c.toNat % 128) 128, Nat.mul_assoc]
    omega
theorem nvalN_take {bs : Txt} : ∀ n, n ≤ bs.length → nvalN bs n = nvL (bs.take n)
  | 0, _ => by simp [nvalN, nvL]
  | n + 1, h => by
    have hg : bs[n]? = some bs[n] := List.getElem?_eq_getElem (by omega)
    rw [nvalN, nvalN_take n (by omega), List.take_add_one, hg]
    simp only [Option.toList_some]
    rw [nvL_app, List.length_take, Nat.min_eq_left (by omega), List.getD_eq_getElem?_getD, hg]; rfl
theorem numB_last : ∀ (n : Nat) {v : Nat}, v ≤ n → 0 < v → (numB v).getD ((numB v).length - 1) 0 ≠ 0
  | n, v, h, h0 => by
    by_cases hv : v < 128
    · rw [numB_small hv]
      simp only [List.length_singleton, Nat.sub_self, List.getD_cons_zero]
      intro hc
      have := congrArg UInt8.toNat hc
      rw [small_byte hv] at this
      simp at this; omega
    · cases n with
      | zero => omega
      | succ n =>
        rw [numB_big hv]
        have hp := numB_pos (v := v / 128)
        simp only [List.length_cons, Nat.add_sub_cancel]
        obtain ⟨m, hm⟩ : ∃ m, (numB (v / 128)).length = m + 1 := ⟨(numB (v / 128)).length - 1, by omega⟩
        rw [hm, List.getD_cons_succ]
        have := numB_last n (v := v / 128) (by omega) (by omega)
        rw [hm] at this
        exact this
theorem rnum_numB {v : Nat} {r : Txt} {least most : Int} (hv : v < 2 ^ 63) : rnum (numB v ++ r) least most = if (v : Int) < least ∨ most < (v : Int) then (0, 0, 4) else ((v : Int), (numB v).length, 0) := by
  have h9 := numB_len9 hv
  have hp := numB_pos (v := v)
  have hn : nlen (numB v ++ r) 0 = ((numB v).length : Int) := by rw [nlen_numB _ (Nat.le_refl _) (by omega)]; congr 1; omega
  have hval : nvalN (numB v ++ r) (numB v).length = v := by
    rw [nvalN_take _ (by rw [List.length_append]; omega), List.take_left, nvL_numB v (Nat.le_refl _)]
  have hla : ¬ (1 < (numB v).length ∧ (numB v ++ r).getD ((numB v).length - 1) 0 = 0) := by
    rintro ⟨h1, h2⟩
    have hv0 : 0 < v := by
      by_cases h : 0 < v
      · exact h
      · obtain rfl : v = 0 := by omega
        rw [numB_small (by omega)] at h1; simp at h1
    refine numB_last v (Nat.le_refl _) hv0 ?_
    rw [List.getD_eq_getElem?_getD, List.getElem?_append_left (by omega)] at h2
    rw [List.getD_eq_getElem?_getD]; exact h2
  unfold rnum
  rw [hn, if_neg (by omega), if_neg (by omega), Int.toNat_natCast, if_neg hla, hval]
theorem rnum_short {cs : Txt} {least most : Int} (h : goOn cs) (h8 : cs.length ≤ 8) : rnum cs least most = (0, 0, 3) := by
  unfold rnum
  rw [nlen_short h (by omega), if_pos (by omega)]
theorem rnum_zero {cs : Txt} {least most : Int} (h : goOn cs) (h0 : 0 < cs.length) : rnum (cs ++ [0]) least most = (0, 0, 4) := by
  unfold rnum
  rw [nlen_zero h (by omega)]
  by_cases h8 : 0 + cs.length ≤ 8
  · rw [if_pos h8, if_neg (by omega), if_neg (by omega), if_pos]
    refine ⟨by omega, ?_⟩
    rw [List.getD_eq_getElem?_getD, show (((0 + cs.length + 1 : Nat) : Int)).toNat - 1 = cs.length by omega, List.getElem?_append_right (by omega), Nat.sub_self]; rfl
  · rw [if_neg h8, if_neg (by omega), if_pos rfl]
theorem rtext_textB {s r : Txt} {most : Int} (hs : s.length ≤ 300) (hm : (s.length : Int) ≤ most) : rtext (textB s ++ r) most = (s, (textB s).length, 0) := by
  unfold rtext textB
  have hr : rnum (numB s.length ++ (s ++ r)) 0 most = ((s.length : Int), (numB s.length).length, 0) := by rw [rnum_numB (by omega)]; exact if_neg (by omega)
  rw [List.append_assoc, hr]
  simp only [ne_eq, not_true_eq_false, if_false, Int.toNat_natCast]
  rw [if_neg (by simp), List.drop_left, List.take_left, List.length_append]
theorem rtext_cut {s : Txt} {most : Int} {j : Nat} (hs : s.length ≤ 300) (hm : (s.length : Int) ≤ most) (hj : j < (textB s).length) : ∃ k, rtext ((textB s).take j) most = ([], k, 3) ∧ k ≤ j := by
  unfold textB at hj ⊢
  rw [List.length_append] at hj
  by_cases h1 : j < (numB s.length).length
  · refine ⟨0, ?_, by omega⟩
    have e : (numB s.length ++ s).take j = (numB s.length).take j := by rw [List.take_append_of_le_length (by omega)]
    have h9 := numB_len9 (v := s.length) (by omega)
    have hr : rnum ((numB s.length).take j) 0 most = (0, 0, 3) := rnum_short (numB_goOn _ (Nat.le_refl _) h1) (by rw [List.length_take]; omega)
    unfold rtext
    rw [e, hr]; rfl
  · refine ⟨(numB s.length).length, ?_, by omega⟩
    have e : (numB s.length ++ s).take j = numB s.length ++ s.take (j - (numB s.length).length) := by rw [List.take_append, List.take_of_length_le (by omega)]
    have hr : rnum (numB s.length ++ s.take (j - (numB s.length).length)) 0 most = ((s.length : Int), (numB s.length).length, 0) := by rw [rnum_numB (by omega)]; exact if_neg (by omega)
    unfold rtext
    rw [e, hr]
    simp only [ne_eq, not_true_eq_false, if_false, Int.toNat_natCast]
    rw [if_pos]
    rw [List.length_append, List.length_take]; omega
theorem op_read {f xs} {i j : Nat} {h : Hp} {cs : List AV} {o v : Bool} {n off len esz : Nat} {cap} {x : Value}
    (he : Ev prog (.call f (xs.map (AV.ren (up h.G.length))) h.into) (.ret (.ptr (.o (h.into.length + 1)) 2 0) (h.into ++ [some (dBlk cs o v), some (sBlk [.own (.o h.into.length) n off len esz cap, .v x] false)])))
    (hij : i ≠ j) (hi : h.L[i]? = some none) (hj : h.L[j]? = some none) (hg : Good h) :
    Ev prog (.op (.call f [i, j]) xs h) (.val (.ptr (.l j) 2 0) ⟨h.G, (h.L.set i (some (dBlk cs o v))).set j (some (sBlk [.own (.l i) n off len esz cap, .v x] false))⟩) := by
  refine .opCall hg.okBlks he ?_
  have hfr : [i, j].all (free h.L) = true := by simp [free_of_get hi, free_of_get hj]
  rw [back_into (h' := h) rfl rfl hg.refsOK (by simp) (by simp [hij]) hfr hfr]
  have e1 : (dBlk cs o v).ren (down h.G.length h.L.length [i, j]) = dBlk cs o v := blk_ren_id fun ℓ hℓ => by cases hℓ
  have e2 : (sBlk [.own (.o h.into.length) n off len esz cap, .v x] false).ren (down h.G.length h.L.length [i, j]) = sBlk [.own (.l i) n off len esz cap, .v x] false := by
    simp only [Blk.ren, sBlk, Bool.false_eq_true, if_false, AV.ren.rens, AV.ren, down_into0]
    rfl
  have e3 : (AV.ptr (.o (h.into.length + 1)) 2 0).ren (down h.G.length h.L.length [i, j]) = .ptr (.l j) 2 0 := by
    simp only [AV.ren, down_into]; rfl
  have e4 : padTo [i, j].length [some (dBlk cs o v), some (sBlk [.own (.o h.into.length) n off len esz cap, .v x] false)] = [some (dBlk cs o v), some (sBlk [.own (.o h.into.length) n off len esz cap, .v x] false)] := rfl
  rw [e4]
  simp only [List.map_cons, List.map_nil, Option.map_some, e1, e2, e3, AM.putAll]
theorem leave_ptr2 {G : List (Option Blk)} {cs : List AV} {o v : Bool} {n off len esz : Nat} {cap} {x : Value} :
    (⟨G, [some (dBlk cs o v), some (sBlk [.own (.l 0) n off len esz cap, .v x] false)]⟩ : Hp).leave (.ptr (.l 1) 2 0) = some (.ptr (.o (G.length + 1)) 2 0, G ++ [some (dBlk cs o v), some (sBlk [.own (.o G.length) n off len esz cap, .v x] false)]) := by
  have hcol : collect (⟨G, [some (dBlk cs o v), some (sBlk [.own (.l 0) n off len esz cap, .v x] false)]⟩ : Hp) 40 (AV.ptr (.l 1) 2 0).labs [] = [1, 0] := rfl
  have hd : (dBlk cs o v).ren (keepMap G.length [0, 1]) = dBlk cs o v := blk_ren_id fun ℓ hℓ => by cases hℓ
  have hs : (sBlk [.own (.l 0) n off len esz cap, .v x] false).ren (keepMap G.length [0, 1]) = sBlk [.own (.o G.length) n off len esz cap, .v x] false := rfl
  unfold Hp.leave
  simp only [hcol, List.reverse_cons, List.reverse_nil, List.nil_append, List.cons_append, List.map_cons, List.map_nil, List.getElem?_cons_zero, List.getElem?_cons_succ, Option.join_some, Option.map_some, hd, hs]
  have hl1 : (dBlk cs o v).labs = [] := rfl
  have hl2 : (sBlk [.own (.o G.length) n off len esz cap, .v x] false).labs = [.o G.length] := rfl
  rw [if_pos]
  · rfl
  · refine ⟨?_, by decide⟩
    simp only [outBlks, hl1, hl2, List.all_nil, List.all_cons, Bool.and_true, Bool.true_and, labLt]
    simp
theorem leave_ptr_d {h : Hp} {j n off : Nat} {b : Blk} (hL : h.L[j]? = some (some b)) (hb : b.labs = []) :
    h.leave (.ptr (.l j) n off) = some (.ptr (.o h.G.length) n off, h.G ++ [some b]) := by
  have hcol : collect h 40 [.l j] [] = [j] := by
    simp only [collect, List.not_mem_nil, if_false, Hp.get, hL, Option.join_some, hb, List.append_nil, List.nil_append]
  have hr : b.ren (keepMap h.G.length [j]) = b := blk_ren_id fun ℓ hℓ => by rw [hb] at hℓ; cases hℓ
  unfold Hp.leave
  simp only [AV.labs, hcol, List.reverse_singleton, List.map_cons, List.map_nil, hL, Option.join_some, Option.map_some, hr, outBlks, hb, List.all_nil, Bool.and_self, List.nodup_cons, List.not_mem_nil, not_false_eq_true, List.nodup_nil, and_self, if_true, AV.ren]
  congr 3
  simp [keepMap, List.idxOf?]
theorem Read_of (H : PackLib prog) {G a} {n : Nat} {c : Option Nat} {cs : List AV} {o v : Bool}
    (hc : Ev prog (.call "slices.Clone[[]byte,byte]" [a.ren (up G.length)] (⟨G, [none, none]⟩ : Hp).into) (.ret (.own (.o (⟨G, [none, none]⟩ : Hp).into.length) n 0 n 1 c) ((⟨G, [none, none]⟩ : Hp).into ++ [some (dBlk cs o v)]))) :
    Ev prog (.call "haberdash/pack.Read" [a] G) (.ret (.ptr (.o (G.length + 1)) 2 0) (G ++ [some (dBlk cs o v), some (sBlk [.own (.o G.length) n 0 n 1 c, .v (.int .i64 0)] false)])) := by
  refine call_of_fin H.read ?_
  simp only [f_pack_Read_B, enter, List.length_cons, List.length_nil, List.replicate, Nat.reduceAdd, Nat.reduceSub, List.cons_append, List.nil_append]
  simp (disch := first | (simp only [ne_eq, reduceCtorEq, not_false_eq_true, implies_true, List.getElem?_cons_zero, List.getElem?_cons_succ]; done) | omega) only [WS, St.guard, St.put, evalO, reduceCtorEq, reduceIte, Nat.reduceAdd, Nat.reduceEqDiff]
  refine WP_news (by exact hc) (data1 dBlk_l) rfl (by decide) rfl trivial (by exact ren_own1) ?_
  simp (disch := first | (simp only [ne_eq, reduceCtorEq, not_false_eq_true, implies_true, List.getElem?_cons_zero, List.getElem?_cons_succ]; done) | omega) only [WS, St.guard, St.put, evalO, reduceCtorEq, reduceIte, Nat.reduceAdd, Nat.reduceEqDiff, new_s, virtBlk_eq, box_s, box_vs, box_vi, box_vb, px_load_l, px_load_o, loadB_s, storeX, storeB_s, alloc_s, lay, whole, Option.join_some, List.drop_zero, List.drop_succ_cons, List.take_succ_cons, List.take_zero, List.drop_nil, List.nil_append, List.cons_append, Nat.reduceLeDiff, Nat.zero_add, and_self, and_true, cells_int, cells_bool, cells_str, cells_string, cells_agg, cells_own, cells_ro, cells_ptr, cells_nil, AV.lf.lfs, AV.lf, px_build, fills, build_string, build_str, build_int, WDR_some, Nat.reduceLeDiff, Nat.le_refl, Bool.and_self, putAll, fin_tmp, or_true]
  exact leave_ptr2
theorem isNil_in {G a} {bs : Txt} {X : List (Option Blk)} (w : ∀ L, View ⟨G, L⟩ a 1 bs.length (bs.map byteAV)) (hn : ∀ L, (⟨G, L⟩ : Hp).isNil .slice a = some false) : ∀ L, (⟨(⟨G, X⟩ : Hp).into, L⟩ : Hp).isNil .slice (a.ren (up G.length)) = some false := fun L => by
  have h1 := hn [none, none]
  rcases (w [none, none]).cases with ⟨rfl, e1, e2⟩ | ⟨nl, rfl⟩ | ⟨ℓ, n, off, cap, B, rfl, hB, hl, hc, hlt⟩
  · simp [Hp.isNil] at h1
  · exact h1
  · have ho : ∃ q, ℓ = .o q := by
      cases ℓ with
      | o q => exact ⟨q, rfl⟩
      | l k => have := (w []).hsees; simp [Hp.sees, Hp.get] at this
    obtain ⟨q, rfl⟩ := ho
    have hq : G[q]? = some (some B) := get_o.1 hB
    have hg2 : (⟨(⟨G, X⟩ : Hp).into, L⟩ : Hp).get (.o q) = some B := by
      show ((⟨G, X⟩ : Hp).into[q]?).join = _
      rw [into_o, if_pos (lt_of_get hq), hq]; rfl
    show (⟨(⟨G, X⟩ : Hp).into, L⟩ : Hp).isNil .slice (.own (.o q) n off bs.length 1 cap) = _
    rw [isNil_own hg2 hl]
    rw [isNil_own hB hl] at h1
    exact h1
theorem Read_spec (H : PackLib prog) {G a} {bs : Txt} (w : ∀ L, View ⟨G, L⟩ a 1 bs.length (bs.map byteAV)) (hn : ∀ L, (⟨G, L⟩ : Hp).isNil .slice a = some false) (h0 : 0 < bs.length) (hr : bs.length ≤ room) :
    Ev prog (.call "haberdash/pack.Read" [a] G) (.ret (.ptr (.o (G.length + 1)) 2 0) (G ++ [some (dBlk (bs.map byteAV) true false), some (sBlk [.own (.o G.length) bs.length 0 bs.length 1 none, .v (.int .i64 0)] false)])) :=
  Read_of H (CloneC (H.clone.trans (congrArg some (by rfl))) ((w [none, none]).into bytes_lfs) (isNil_in w hn) h0 hr)
theorem Clone0 {nm} (hf : prog nm = some f_bytes_Clone) {G a} (w : ∀ L, View ⟨G, L⟩ a 1 ([] : Txt).length (([] : Txt).map byteAV)) (hn : ∀ L, (⟨G, L⟩ : Hp).isNil .slice a = some false) :
    Ev prog (.call nm [a] G) (.ret (.own (.o G.length) 0 0 0 1 (some 0)) (G ++ [some (dBlk [] false false)])) := by
  refine call_of_fin hf ?_
  simp only [f_bytes_Clone_B, enter, List.length_cons, List.length_nil, List.replicate, Nat.reduceAdd, Nat.reduceSub, List.cons_append, List.nil_append]
  simp (disch := first | (simp only [ne_eq, reduceCtorEq, not_false_eq_true, implies_true]; done) | omega) only [WS, St.guard, St.put, evalO, reduceCtorEq, reduceIte, Nat.reduceAdd, Nat.reduceEqDiff, isNilV, hn]
  rw [build0 rfl]
  simp (disch := first | (simp only [ne_eq, reduceCtorEq, not_false_eq_true, implies_true]; done) | omega) only [WS, St.guard, St.put, evalO, reduceCtorEq, reduceIte, Nat.reduceAdd, Nat.reduceEqDiff]
  have ap : prim ⟨G, [some (dBlk [] false false), none]⟩ (.append 1 false 1 1) [.own (.l 0) 0 0 0 1 (some 0), a] = some (.own (.l 0) 0 0 0 1 (some 0), ⟨G, [some (dBlk [] false false), none]⟩) := by
    simp only [prim, (w _).source, Option.bind_some, Hp.mayFreeze, Bool.false_eq_true, if_false, Hp.append, List.map_nil, List.length_nil, Nat.zero_mul, if_true, Hp.get, List.getElem?_cons_zero, Option.join_some]
    exact if_pos ⟨rfl, trivial, by unfold room; omega, rfl⟩
  rw [ap]
  simp (disch := first | (simp only [ne_eq, reduceCtorEq, not_false_eq_true, implies_true]; done) | omega) only [WS, St.guard, St.put, evalO, reduceCtorEq, reduceIte, Nat.reduceAdd, Nat.reduceEqDiff, fin_tmp]
  exact ⟨by simp, leave_own1 (j := 0) rfl rfl⟩
theorem Read0_spec (H : PackLib prog) {G a} (w : ∀ L, View ⟨G, L⟩ a 1 ([] : Txt).length (([] : Txt).map byteAV)) (hn : ∀ L, (⟨G, L⟩ : Hp).isNil .slice a = some false) :
    Ev prog (.call "haberdash/pack.Read" [a] G) (.ret (.ptr (.o (G.length + 1)) 2 0) (G ++ [some (dBlk [] false false), some (sBlk [.own (.o G.length) 0 0 0 1 (some 0), .v (.int .i64 0)] false)])) :=
  Read_of H (Clone0 (H.clone.trans (congrArg some (by rfl))) ((w [none, none]).into rfl) (isNil_in w hn))
theorem ReadNil_spec (H : PackLib prog) {G a} (hn : ∀ L, (⟨(⟨G, [none, none]⟩ : Hp).into, L⟩ : Hp).isNil .slice (a.ren (up G.length)) = some true) :
    Ev prog (.call "haberdash/pack.Read" [a] G) (.ret (.ptr (.o G.length) 2 0) (G ++ [some (sBlk [.v (.slice none 0 0), .v (.int .i64 0)] true)])) := by
  refine call_of_fin H.read ?_
  simp only [f_pack_Read_B, enter, List.length_cons, List.length_nil, List.replicate, Nat.reduceAdd, Nat.reduceSub, List.cons_append, List.nil_append]
  simp (disch := first | (simp only [ne_eq, reduceCtorEq, not_false_eq_true, implies_true, List.getElem?_cons_zero, List.getElem?_cons_succ]; done) | omega) only [WS, St.guard, St.put, evalO, reduceCtorEq, reduceIte, Nat.reduceAdd, Nat.reduceEqDiff]
  refine WP_of (op_none (by exact CloneNil (H.clone.trans (congrArg some (by rfl))) hn) (by decide) rfl trivial) ?_
  simp (disch := first | (simp only [ne_eq, reduceCtorEq, not_false_eq_true, implies_true, List.getElem?_cons_zero, List.getElem?_cons_succ]; done) | omega) only [WS, St.guard, St.put, evalO, reduceCtorEq, reduceIte, Nat.reduceAdd, Nat.reduceEqDiff, new_s, virtBlk_eq, box_s, box_vs, box_vi, box_vb, px_load_l, px_load_o, loadB_s, storeX, storeB_s, alloc_s, lay, whole, Option.join_some, List.drop_zero, List.drop_succ_cons, List.take_succ_cons, List.take_zero, List.drop_nil, List.nil_append, List.cons_append, Nat.reduceLeDiff, Nat.zero_add, and_self, and_true, cells_int, cells_bool, cells_str, cells_string, cells_agg, cells_own, cells_ro, cells_ptr, cells_nil, AV.lf.lfs, AV.lf, px_build, fills, build_string, build_str, build_int, WDR_some, Nat.reduceLeDiff, Nat.le_refl, Bool.and_self, fin_tmp, or_true]
  exact leave_ptr_d rfl rfl
end Go.AM
namespace Go.AM
variable {prog : String → Option IFn}
def rdL (i n k : Nat) (c : Option Nat) (e : Int) : Option Blk := some (sBlk [.own (.l i) n k (n - k) 1 c, .v (.int .i64 e)] false)
structure RdL (G L : List (Option Blk)) (i j : Nat) (bs : Txt) (k : Nat) (c : Option Nat) (e : Int) : Prop where
  dat : ∃ o v, L[i]? = some (some (dBlk (bs.map byteAV) o v))
  obj : L[j]? = some (rdL i bs.length k c e)
  lt : i < j
  hk : k ≤ bs.length
  hc : ∀ x, c = some x → bs.length - k ≤ x
  big : bs.length ≤ 2 ^ 40
variable {G L : List (Option Blk)} {i j k : Nat} {bs : Txt} {c : Option Nat} {e : Int}
theorem RdL.data (R : RdL G L i j bs k c e) : RdA (⟨G, L⟩ : Hp).into (G.length + j) (.own (.o (G.length + i)) bs.length k (bs.length - k) 1 c) (bs.drop k) := by
  obtain ⟨o, v, hd⟩ := R.dat
  refine ⟨fun L' => ?_, ?_, ?_⟩
  · have vv : View ⟨G, L⟩ (.own (.l i) bs.length k (bs.length - k) 1 c) 1 (bs.drop k).length ((bs.drop k).map byteAV) := by
      refine ⟨by simp [lenOf], ?_, by simp, rfl, ?_, by omega⟩
      · simp only [Hp.sees, Hp.get, hd, Option.join_some, dBlk_cells, List.length_map, if_true]
        rw [Nat.mul_one, ← List.map_drop, List.take_of_length_le (by simp)]
      · cases c with
        | none => trivial
        | some x => have := R.hc x rfl; simpa [capOK] using this
    exact vv.into bytes_lfs L'
  · have := R.lt
    simp [AV.labs, labLt]; omega
  · rw [List.length_drop]; have := R.big; omega
theorem RdL.at (R : RdL G L i j bs k c e) : (⟨G, L⟩ : Hp).into[G.length + j]? = some (rdB (.own (.o (G.length + i)) bs.length k (bs.length - k) 1 c) e) := by
  have := into_l (h := ⟨G, L⟩) (j := j)
  rw [this, R.obj]; rfl
theorem RdL.put (R : RdL G L i j bs k c e) {k2 : Nat} {c2 : Option Nat} {e2 : Int} : (⟨G, L⟩ : Hp).into.set (G.length + j) (rdB (.own (.o (G.length + i)) bs.length k2 (bs.length - k2) 1 c2) e2) = (⟨G, L.set j (rdL i bs.length k2 c2 e2)⟩ : Hp).into := by
  unfold Hp.into
  simp only
  rw [List.set_append_right _ _ (by omega), Nat.add_sub_cancel_left, List.map_set]
  rfl
theorem RdL.step (R : RdL G L i j bs k c e) {d : Nat} {e2 : Int} (hd : k + d ≤ bs.length) : RdL G (L.set j (rdL i bs.length (k + d) (c.map (· - d)) e2)) i j bs (k + d) (c.map (· - d)) e2 := by
  obtain ⟨o, v, h⟩ := R.dat
  have hl := R.lt
  have hj := lt_of_get R.obj
  refine ⟨⟨o, v, by rw [List.getElem?_set, if_neg (by omega)]; exact h⟩, by rw [List.getElem?_set_self (by omega)], R.lt, hd, fun x hx => ?_, R.big⟩
  cases c with
  | none => cases hx
  | some y =>
    have := R.hc y rfl
    simp at hx; omega
theorem WDP_of {s : St} {kf : List Kf} {Q : Out → St → Prop} {p : Prim} {xs m ld dst l} {a : AV} {h' : Hp} (he : Ev prog (.op p xs s.h) (.val a h')) (hg : Good s.h) (hg' : Good h') (hl : h'.L.length = s.h.L.length) (hq : Quiet (p.sites ++ m) s.h h')
    (h : WD prog l kf (({ s with h := h' } : St).put dst a) Q) : WDP prog p xs [] m ld dst l kf s Q := by
  refine WDP_go (h1 := h') (by rw [over_nil]; exact he) (by simp) hg hl ?_ ?_
  · rw [over_nil]; exact .inr ⟨hq, hg'⟩
  · rw [over_nil]; exact h
theorem Good.rd (hg : Good ⟨G, L⟩) (R : RdL G L i j bs k c e) {k2 : Nat} {c2 : Option Nat} {e2 : Int} : Good ⟨G, L.set j (rdL i bs.length k2 c2 e2)⟩ := by
  have hj := lt_of_get R.obj
  have hl := R.lt
  unfold Good at hg ⊢
  rw [goodL_iff] at hg ⊢
  intro q B hq
  rw [List.getElem?_set] at hq
  by_cases h : j = q
  · subst h
    rw [if_pos rfl, if_pos (by omega)] at hq
    simp only [rdL, Option.some.injEq] at hq
    subst hq
    refine sBlk_good ?_
    simp [AV.labs.labss, AV.labs, refLt]; omega
  · rw [if_neg h] at hq; exact hg q B hq
theorem sub_rd {ℓ : Lab} {n d : Nat} (m : Nat) : AM.sub (.own ℓ n k (n - k) 1 c) 1 d m = .own ℓ n (k + d) (m - d) 1 (c.map (· - d)) := by simp [AM.sub]
theorem lRead (H : PackLib prog) {q n off len : Nat} {cap} {cs : List AV} {o : Bool} {i j : Nat} (hq : L[q]? = some (some (dBlk cs o false))) (w : View ⟨G, L⟩ (.own (.l q) n off len 1 cap) 1 bs.length (bs.map byteAV)) (h0 : 0 < bs.length) (hr : bs.length ≤ room)
    (hij : i ≠ j) (hi : L[i]? = some none) (hj : L[j]? = some none) (hg : Good ⟨G, L⟩) :
    Ev prog (.op (.call "haberdash/pack.Read" [i, j]) [.own (.l q) n off len 1 cap] ⟨G, L⟩) (.val (.ptr (.l j) 2 0) ⟨G, (L.set i (some (dBlk (bs.map byteAV) true false))).set j (rdL i bs.length 0 none 0)⟩) := by
  refine op_read ?_ hij hi hj hg
  refine Read_spec H (fun L' => w.into bytes_lfs L') (fun L' => ?_) h0 hr
  have hn : n = cs.length := (by have h := w.hsees; simp only [Hp.sees, Hp.get, hq, Option.join_some, dBlk_cells] at h; by_cases hc : cs.length = n; exact hc.symm; simp [hc] at h)
  exact (isNil_own (get_into_data (h := ⟨G, L⟩) (j := q) hq rfl) hn.symm).trans (by rfl)
theorem lRead0 (H : PackLib prog) {q n off : Nat} {cap} {cs : List AV} {o : Bool} {i j : Nat} (hq : L[q]? = some (some (dBlk cs o false))) (w : View ⟨G, L⟩ (.own (.l q) n off 0 1 cap) 1 0 [])
    (hij : i ≠ j) (hi : L[i]? = some none) (hj : L[j]? = some none) (hg : Good ⟨G, L⟩) :
    Ev prog (.op (.call "haberdash/pack.Read" [i, j]) [.own (.l q) n off 0 1 cap] ⟨G, L⟩) (.val (.ptr (.l j) 2 0) ⟨G, (L.set i (some (dBlk [] false false))).set j (rdL i 0 0 (some 0) 0)⟩) := by
  refine op_read ?_ hij hi hj hg
  refine Read0_spec H (fun L' => w.into rfl L') (fun L' => ?_)
  have hn : n = cs.length := (by have h := w.hsees; simp only [Hp.sees, Hp.get, hq, Option.join_some, dBlk_cells] at h; by_cases hc : cs.length = n; exact hc.symm; simp [hc] at h)
  exact (isNil_own (get_into_data (h := ⟨G, L⟩) (j := q) hq rfl) hn.symm).trans (by rfl)
section
variable (H : PackLib prog) (hg : Good ⟨G, L⟩)
include H hg
theorem lNum {least most : Int} (R : RdL G L i j bs k c 0) :
    Ev prog (.op (.call "(*haberdash/pack.Reader).Num" []) [.ptr (.l j) 2 0, .v (.int .i64 least), .v (.int .i64 most)] ⟨G, L⟩)
      (.val (.v (.int .i64 (rnum (bs.drop k) least most).1)) ⟨G, L.set j (rdL i bs.length (k + (rnum (bs.drop k) least most).2.1) (c.map (· - (rnum (bs.drop k) least most).2.1)) (rnum (bs.drop k) least most).2.2)⟩) := by
  refine op_turn ⟨G, L.set j _⟩ ?_ rfl rfl (by simp) hg (hg.rd R)
  rw [← R.put]
  have := Num_spec H (least := least) (most := most) R.at R.data
  rw [sub_rd, List.length_drop, Nat.sub_sub] at this
  exact this
theorem lNumE {least most : Int} (R : RdL G L i j bs k c e) (he : e ≠ 0) :
    Ev prog (.op (.call "(*haberdash/pack.Reader).Num" []) [.ptr (.l j) 2 0, .v (.int .i64 least), .v (.int .i64 most)] ⟨G, L⟩) (.val (.v (.int .i64 0)) ⟨G, L⟩) :=
  op_turn ⟨G, L⟩ (Num_err H R.at he) rfl rfl rfl hg hg
theorem lText {most : Int} (R : RdL G L i j bs k c 0) :
    Ev prog (.op (.call "(*haberdash/pack.Reader).Text" []) [.ptr (.l j) 2 0, .v (.int .i64 most)] ⟨G, L⟩)
      (.val (.v (str (rtext (bs.drop k) most).1)) ⟨G, L.set j (rdL i bs.length (k + (rtext (bs.drop k) most).2.1) (c.map (· - (rtext (bs.drop k) most).2.1)) (rtext (bs.drop k) most).2.2)⟩) := by
  refine op_turn ⟨G, L.set j _⟩ ?_ rfl rfl (by simp) hg (hg.rd R)
  rw [← R.put]
  have := text_spec H (most := most) R.at R.data
  rw [sub_rd, List.length_drop, Nat.sub_sub] at this
  exact this
theorem lTextE {most : Int} (R : RdL G L i j bs k c e) (he : e ≠ 0) :
    Ev prog (.op (.call "(*haberdash/pack.Reader).Text" []) [.ptr (.l j) 2 0, .v (.int .i64 most)] ⟨G, L⟩) (.val (.v (str [])) ⟨G, L⟩) :=
  op_turn ⟨G, L⟩ (Text_err H R.at he) rfl rfl rfl hg hg
theorem lFlag (R : RdL G L i j bs k c 0) :
    Ev prog (.op (.call "(*haberdash/pack.Reader).Flag" []) [.ptr (.l j) 2 0] ⟨G, L⟩)
      (.val (.v (.bool ((rnum (bs.drop k) 0 1).1 == 1))) ⟨G, L.set j (rdL i bs.length (k + (rnum (bs.drop k) 0 1).2.1) (c.map (· - (rnum (bs.drop k) 0 1).2.1)) (rnum (bs.drop k) 0 1).2.2)⟩) := by
  refine op_turn ⟨G, L.set j _⟩ ?_ rfl rfl (by simp) hg (hg.rd R)
  rw [← R.put]
  have := Flag_spec H R.at R.data
  rw [sub_rd, List.length_drop, Nat.sub_sub] at this
  exact this
theorem lFlagE (R : RdL G L i j bs k c e) (he : e ≠ 0) :
    Ev prog (.op (.call "(*haberdash/pack.Reader).Flag" []) [.ptr (.l j) 2 0] ⟨G, L⟩) (.val (.v (.bool false)) ⟨G, L⟩) :=
  op_turn ⟨G, L⟩ (Flag_err H R.at he) rfl rfl rfl hg hg
theorem lErr (R : RdL G L i j bs k c e) : Ev prog (.op (.call "(*haberdash/pack.Reader).Err" []) [.ptr (.l j) 2 0] ⟨G, L⟩) (.val (.v (.int .i64 e)) ⟨G, L⟩) :=
  op_turn ⟨G, L⟩ (Err_spec H R.at) rfl rfl rfl hg hg
theorem lEnd (R : RdL G L i j bs k c e) : Ev prog (.op (.call "(*haberdash/pack.Reader).End" []) [.ptr (.l j) 2 0] ⟨G, L⟩) (.val (.v (.int .i64 (endV e (bs.length - k)))) ⟨G, L⟩) := by
  have := End_spec H R.at R.data
  rw [List.length_drop] at this
  exact op_turn ⟨G, L⟩ this rfl rfl rfl hg hg
end
end Go.AM
