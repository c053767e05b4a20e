import Derived.Test.YtphknfgiljkjaaaGoodsA
import Derived.Test.YtphknfgiljkjaaaLawScopeC
set_option linter.unusedVariables false
set_option linter.unusedSimpArgs false
namespace Go.AM
variable {prog : String → Option IFn}
structure NumV where
  l : List Int
  a : AV
  va : ∀ h, View h a 1 l.length (l.map intAV)
def numE : Enc NumV := ⟨fun x => [x.a], 1, false, fun _ => rfl, by omega, .inr rfl, fun x => by simp [AV.lf.lfs, (val_lf x.va).1], fun _ x => ⟨x.a, rfl, (val_lf x.va).2⟩⟩
def intE : Enc Int := ⟨fun n => [intAV n], 1, false, fun _ => rfl, by omega, .inr rfl, fun _ => rfl, fun _ n => ⟨intAV n, rfl, rfl⟩⟩
theorem intE_row (l : List Int) : intE.row l = l.map intAV := by
  induction l with
  | nil => rfl
  | cons x l ih =>
    have : intE.row (x :: l) = intAV x :: intE.row l := rfl
    rw [this, ih]; rfl
structure NearLib (prog : String → Option IFn) : Prop extends ScopeW prog where
  lists : prog "haberdash/haberdashhelp.Lists" = some f_help_Lists
  plainI : prog "haberdash/haberdashhelp.Plain[int]" = some f_help_Plain_int_
  plainI1 : prog "haberdash/haberdashhelp.Plain[int]$1" = some f_help_Plain_int__1
  sameL : prog "haberdash/haberdashhelp.Same[[]int]" = some f_help_Same___int_
  sameI : prog "haberdash/haberdashhelp.Same[int]" = some f_help_Same_int_
  index : prog "haberdash/scope.Index" = some xFn
  rindex : prog "haberdash/haberdashref10.Index" = some f_ref10_Index
  items : prog "haberdash/haberdashplay.Items" = some f_play_Items
  mod64 : prog "haberdash/haberdashplay.Mod64" = some f_play_Mod64
theorem plainInt (H : NearLib prog) : PlainOK prog "haberdash/haberdashhelp.Plain[int]" intE := by
  refine plain_ok (same := "haberdash/haberdashhelp.Same[int]") (one := "haberdash/haberdashhelp.Plain[int]$1") (H.plainI.trans (congrArg some (by rfl))) (H.sameI.trans (congrArg some (by rfl))) fun {G} x y => ?_
  refine call_of_fin H.plainI1 ?_
  simp only [f_help_Plain_int__1_B, enter, List.length_cons, List.length_nil, List.replicate, Nat.reduceAdd, Nat.reduceSub, List.cons_append, List.nil_append]
  show WC prog _ _ _ _
  simp (disch := first | (simp only [DS, reduceCtorEq]; done) | omega) only [show intE.av x = .v (.int .i64 x) from rfl, show intE.av y = .v (.int .i64 y) from rfl, WS, St.guard, St.put, evalO, reduceCtorEq, reduceIte, Nat.reduceAdd, Nat.reduceEqDiff, fin_tmp, leave_v]
  simp [Bool.beq_eq_decide_eq]
theorem lists_spec (H : NearLib prog) {G a b} {xs ys : List NumV} (v : ∀ L, TView numE ⟨G, L⟩ a xs) (w : ∀ L, TView numE ⟨G, L⟩ b ys) (e : xs.map (·.l) = ys.map (·.l)) (hl : xs.length ≤ 2 ^ 40) (hs : ∀ x ∈ xs, x.l.length ≤ 2 ^ 40) :
    Ev prog (.call "haberdash/haberdashhelp.Lists" [a, b] G) (.ret (.v (.bool true)) G) := by
  have hlen : xs.length = ys.length := by simpa using congrArg List.length e
  refine call_of_fin H.lists ?_
  simp only [f_help_Lists_B, enter, List.length_cons, List.length_nil, List.replicate, Nat.reduceAdd, Nat.reduceSub, List.cons_append, List.nil_append]
  simp (disch := first | (simp only [DS, reduceCtorEq]; done) | omega) only [WS, St.guard, St.put, evalO, reduceCtorEq, reduceIte, Nat.reduceAdd, Nat.reduceEqDiff]
  have := same_spec (prog := prog) (T := numE) (U := numE) rfl rfl (H.sameL.trans (congrArg some (by rfl))) (G := (⟨G, []⟩ : Hp).into) (a := a.ren (up G.length)) (b := b.ren (up G.length)) (fv := .fn "haberdash/haberdashhelp.Plain[int]" [] []) (xs := xs) (ys := ys) ((v []).into) ((w []).into) (fun x y => decide (x.l = y.l)) (fun i x y hx hy => by
    refine .opCallV (r := .v (.bool (decide (x.l = y.l)))) (G2 := (⟨(⟨G, []⟩ : Hp).into, []⟩ : Hp).into) rfl ?_ (back_pure rfl)
    have hr : ∀ z : NumV, (numE.av z).ren (up ((⟨G, []⟩ : Hp).into).length) = numE.av z := fun z => ren_id fun ℓ hl => by rw [lf_of_labs_nil (numE.av_lf z)] at hl; cases hl
    simp only [List.nil_append, List.append_nil, List.map_cons, List.map_nil, hr]
    have hv : ∀ (z : NumV) h, TView intE h (numE.av z) z.l := fun z h => by unfold TView; rw [intE_row]; exact z.va h
    have exy : x.l = y.l := by
      have h1 : (xs.map (·.l))[i]? = some x.l := by rw [List.getElem?_map, hx]; rfl
      have h2 : (ys.map (·.l))[i]? = some y.l := by rw [List.getElem?_map, hy]; rfl
      rw [e] at h1; rw [h1] at h2; simpa using h2
    have hxl := hs x (List.mem_of_getElem? hx)
    exact plainInt H (fun L => hv x _) (fun L => hv y _) (by omega) (by rw [← exy]; omega)) (by omega) (by omega)
  rw [same2_all hlen (fun i x y hx hy => decide_eq_true (by
      have h1 : (xs.map (·.l))[i]? = some x.l := by rw [List.getElem?_map, hx]; rfl
      have h2 : (ys.map (·.l))[i]? = some y.l := by rw [List.getElem?_map, hy]; rfl
      rw [e] at h1; rw [h1] at h2; simpa using h2))] at this
  refine (WP_p (x := .bool true) (by exact this) (by exact trivial)).2 ?_
  simp (disch := first | (simp only [DS, reduceCtorEq]; done) | omega) only [WS, St.guard, St.put, evalO, reduceCtorEq, reduceIte, Nat.reduceAdd, Nat.reduceEqDiff, fin_tmp, leave_v]
  simp
def whoK (x : ItemD) (ss : List ScopeV) (k : Nat) : List Int := ((List.range k).filter fun j => match ss[j]? with | some s => hasI s.n s.c x | none => false).map fun (j : Nat) => (j : Int)
theorem whoK_succ {x : ItemD} {ss : List ScopeV} {k : Nat} {s : ScopeV} (hs : ss[k]? = some s) : whoK x ss (k + 1) = whoK x ss k ++ if hasI s.n s.c x then [(k : Int)] else [] := by
  unfold whoK
  rw [List.range_succ, List.filter_append, List.map_append]
  cases h : hasI s.n s.c x <;> simp [hs, h]
theorem whoK_len {x : ItemD} {ss : List ScopeV} {k : Nat} : (whoK x ss k).length ≤ k := by
  unfold whoK
  rw [List.length_map]
  exact Nat.le_trans (List.length_filter_le _ _) (by simp)
def numV (nl : Bool) (l : List Int) : NumV := ⟨l, .ro nl 1 l.length (l.map intAV), fun h => view_ro (by decide) (by simp)⟩
def numO (l : List Int) : NumV := ⟨l, if l = [] then .v (.slice none 0 0) else .ro false 1 l.length (l.map intAV), fun h => by
  by_cases e : l = []
  · subst e; exact view_nil' (by decide)
  · rw [if_neg e]; exact view_ro (by decide) (by simp)⟩
theorem xStrs_row : ∀ (l : List Txt), xStrs (sEnc.row l) = some (l.map fun t => ⟨t.toArray⟩)
  | [] => rfl
  | x :: l => by
    have : sEnc.row (x :: l) = .v (str x) :: sEnc.row l := rfl
    rw [this]
    show (xStrs (sEnc.row l)).map _ = _
    rw [xStrs_row l]; rfl
theorem xNames_of {a : AV} {l : List Txt} (v : ∀ h, TView sEnc h a l) (hl : l.length ≤ 1000000) : xNames a = some (l.map fun t => ⟨t.toArray⟩) := by
  have v0 := v ⟨[], []⟩
  have hlen : (sEnc.row l).length = l.length := by rw [sEnc.row_len, show sEnc.esz = 1 from rfl, Nat.mul_one]
  rcases View.cases v0 with ⟨rfl, h0, _⟩ | ⟨nl, rfl⟩ | ⟨ℓ, m, off, cap, B, rfl, hB, _⟩
  · have : l = [] := List.eq_nil_of_length_eq_zero h0
    subst this; rfl
  · show (if _ then _ else _) = _
    rw [if_pos ⟨hlen, hl⟩, xStrs_row]
  · cases ℓ <;> simp [Hp.get] at hB
theorem xItems_row : ∀ (xs : List ItemD), xItems (itEnc.row xs) = some (xs.map fun x => (⟨x.sku.toArray⟩, ⟨x.cat.toArray⟩))
  | [] => rfl
  | x :: l => by
    have : itEnc.row (x :: l) = .v (str x.sku) :: .v (str x.cat) :: .v (.int .i64 x.price) :: .v (.bool x.used) :: itEnc.row l := rfl
    rw [this]
    show (xItems (itEnc.row l)).map _ = _
    rw [xItems_row l]; rfl
theorem xScopes_row : ∀ (ss : List ScopeV), (∀ s ∈ ss, s.n.length ≤ 1000000 ∧ s.c.length ≤ 1000000) → xScopes (scEnc.row ss) = some (ss.map fun s => (s.n.map (fun t => ⟨t.toArray⟩), s.c.map fun t => ⟨t.toArray⟩))
  | [], _ => rfl
  | s :: ss, h => by
    have e : scEnc.row (s :: ss) = s.a :: s.b :: scEnc.row ss := rfl
    have hs := h s (by simp)
    rw [e]
    show (xNames s.a).bind _ = _
    rw [xNames_of s.va hs.1, Option.bind_some, xNames_of s.vb hs.2, Option.bind_some, xScopes_row ss fun s h' => h s (by simp [h'])]
    rfl
theorem xHas_eq (s : ScopeV) (x : ItemD) : xHas (⟨x.sku.toArray⟩, ⟨x.cat.toArray⟩) (s.n.map (fun t => ⟨t.toArray⟩), s.c.map fun t => ⟨t.toArray⟩) = hasI s.n s.c x := by
  have e : ∀ (l : List Txt) (t : Txt), ((l.map fun t => (⟨t.toArray⟩ : ByteArray)).any fun b => b.toList == (⟨t.toArray⟩ : ByteArray).toList) = decide (t ∈ l) := fun l t => by
    rw [Bool.eq_iff_iff]
    simp only [List.any_map, Function.comp_def, str_toList, List.any_eq_true, beq_iff_eq, decide_eq_true_eq, exists_eq_right]
  unfold xHas hasI
  simp only [List.length_map, e, Bool.or_assoc]
theorem xWho_take (x : ItemD) (ss : List ScopeV) : ∀ k, k ≤ ss.length → (xWho (⟨x.sku.toArray⟩, ⟨x.cat.toArray⟩) 0 ((ss.take k).map fun s => (s.n.map (fun t => ⟨t.toArray⟩), s.c.map fun t => ⟨t.toArray⟩))).map (fun (j : Nat) => (j : Int)) = whoK x ss k
  | 0, _ => rfl
  | k + 1, hk => by
    obtain ⟨s, hs⟩ : ∃ s, ss[k]? = some s := ⟨_, List.getElem?_eq_getElem (by omega)⟩
    have snoc : ∀ (l : List (List ByteArray × List ByteArray)) (i : Nat) t y, xWho y i (l ++ [t]) = xWho y i l ++ if xHas y t then [i + l.length] else [] := fun l => by
      induction l with
      | nil => intro i t y; simp [xWho]
      | cons u l ih =>
        intro i t y
        simp only [List.cons_append, xWho, ih, List.append_assoc, List.length_cons]
        rw [show i + 1 + l.length = i + (l.length + 1) by omega]
    rw [whoK_succ hs, ← xWho_take x ss k (by omega), List.take_add_one, hs, Option.toList_some, List.map_append, List.map_cons, List.map_nil, snoc, xHas_eq, List.map_append, Nat.zero_add, List.length_map, List.length_take, Nat.min_eq_left (by omega)]
    cases hasI s.n s.c x <;> rfl
def idxB (xs : List ItemD) (ss : List ScopeV) : Blk := { cells := numE.row (xs.map fun x => numO (whoK x ss ss.length)), opn := false, wr := true, data := true, virt := false }
theorem xIdx_run (H : NearLib prog) {G a b} {xs : List ItemD} {ss : List ScopeV} (v : ∀ L, TView itEnc ⟨G, L⟩ a xs) (w : ∀ L, TView scEnc ⟨G, L⟩ b ss) (hx : xs.length ≤ 1000000) (hs : ss.length ≤ 1000000) (hn : ∀ s ∈ ss, s.n.length ≤ 1000000 ∧ s.c.length ≤ 1000000) :
    Ev prog (.call "haberdash/scope.Index" [a, b] G) (.ret (.own (.o G.length) xs.length 0 xs.length 1 (some xs.length)) (G ++ [some (idxB xs ss)])) := by
  refine Ev.orc (r := (.own (.o G.length) xs.length 0 xs.length 1 (some xs.length), G ++ [some (idxB xs ss)])) H.index ?_
  have hv := v []
  have hw := w []
  unfold xRun
  rw [if_neg (by decide), if_pos rfl]
  unfold xIdx
  have e : (⟨G, []⟩ : Hp).seesAll [a, b] = some [(xs.length, itEnc.row xs), (ss.length, scEnc.row ss)] := by
    simp only [Hp.seesAll, hv.hlen, hv.hsees, hw.hlen, hw.hsees, Option.bind_some, Option.map_some]
  rw [e]
  simp only [Option.bind_some, xItems_row, xScopes_row ss hn, List.length_map]
  rw [if_pos ⟨trivial, trivial, hx, hs⟩]
  have hc : ((xs.map fun x => ((⟨x.sku.toArray⟩ : ByteArray), (⟨x.cat.toArray⟩ : ByteArray))).map fun x => xRow (xWho x 0 (ss.map fun s => (s.n.map (fun t => ⟨t.toArray⟩), s.c.map fun t => ⟨t.toArray⟩)))) = numE.row (xs.map fun x => numO (whoK x ss ss.length)) := by
    clear e hx v hv
    induction xs with
    | nil => rfl
    | cons x xs ih =>
      have e : numE.row ((x :: xs).map fun x => numO (whoK x ss ss.length)) = (numO (whoK x ss ss.length)).a :: numE.row (xs.map fun x => numO (whoK x ss ss.length)) := rfl
      rw [e, ← ih]
      simp only [List.map_cons, List.cons.injEq, and_true]
      have := xWho_take x ss ss.length (Nat.le_refl _)
      rw [List.take_length] at this
      rw [← this]
      unfold xRow numO
      generalize xWho _ 0 _ = l
      by_cases h : l = []
      · subst h; rfl
      · rw [if_neg h]
        show _ = (if l.map (fun (j : Nat) => (j : Int)) = [] then AV.v (.slice none 0 0) else AV.ro false 1 (l.map (fun (j : Nat) => (j : Int))).length ((l.map (fun (j : Nat) => (j : Int))).map intAV))
        rw [if_neg (by simpa using h), List.length_map, List.map_map]; rfl
  rw [hc]; rfl
end Go.AM
namespace Go.AM
variable {prog : String → Option IFn}
theorem val_frz {a esz len cells} (v : ∀ h, View h a esz len cells) (h : Hp) : h.freeze a = some (a, h) := by
  rcases (v ⟨[], []⟩).cases with ⟨rfl, _, _⟩ | ⟨nl, rfl⟩ | ⟨ℓ', n, off, cap, b, rfl, hB, _⟩
  · rfl
  · rfl
  · cases ℓ' <;> simp [Hp.get] at hB
theorem numE_frz (x : NumV) (h : Hp) : h.freezes (numE.E x) = some (numE.E x, h) := by
  show (h.freeze x.a).bind _ = _
  rw [val_frz x.va]; rfl
section
variable {α : Type} {T : Enc α}
theorem append_F {G L} {site j m bytes : Nat} {xs : List α} {x : α} {v o2 v2 : Bool} {cap} (hz : ∀ h : Hp, h.freezes (T.E x) = some (T.E x, h)) (hL : L[j]? = some (some (dBlk (T.row xs) true v))) (hm : L[m]? = some (some (dBlk (T.E x) o2 v2))) (hr : (xs.length + 1) * bytes ≤ room) (hcap : ∀ c, cap = some c → 1 ≤ c) :
    prim ⟨G, L⟩ (.append site true T.esz bytes) [.own (.l j) (xs.length * T.esz) 0 xs.length T.esz none, .own (.l m) T.esz 0 1 T.esz cap] =
      some (.own (.l j) ((xs.length + 1) * T.esz) 0 (xs.length + 1) T.esz none, ⟨G, L.set j (some (dBlk (T.row (xs ++ [x])) true false))⟩) := by
  have hv : View ⟨G, L⟩ (.own (.l m) T.esz 0 1 T.esz cap) T.esz 1 (T.E x) := own_viewC hm (T.len x) (by omega) T.pos hcap
  have := append_T (G := G) (site := site) (bytes := bytes) (T := T) (xs := xs) (x := x) (v := v) hL hm hr hcap
  rw [px_append, hv.source, Option.bind_some] at this ⊢
  simp only [Hp.mayFreeze, Bool.false_eq_true, if_false, if_true, hz, Option.bind_some] at this ⊢
  exact this
end
theorem build_frz {G L} {n : Nat} {cells : List AV} {v : Bool} (h1 : L[1]? = some (some (dBlk cells true v))) (h4 : L[4]? = some none) (hl : cells.length = n) (hlf : AV.lf.lfs cells = true) :
    prim ⟨G, L⟩ (.buildSlice 4 true 1 1 [.slice none 0 0] [(0, 1)]) [.own (.l 1) (n * 1) 0 n 1 none] =
      some (.own (.l 4) 1 0 1 1 (some 1), ⟨G, (L.set 1 (some { dBlk cells true v with wr := false })).set 4 (some (dBlk [.ro v 1 n cells] false false))⟩) := by
  rw [px_buildSlice]
  simp only [Hp.mayFreeze, if_true, Hp.freezes, Hp.freeze, Hp.get, h1, Option.join_some, dBlk_cells]
  have hc1 : cells.length = n * 1 := by omega
  simp only [hc1, show (dBlk cells true v).data = true from rfl, and_self, if_true]
  simp only [Option.bind_some, Option.map_some, Nat.mul_one, List.drop_zero]
  rw [List.take_of_length_le (by omega)]
  have hg : (L.set 1 (some { dBlk cells true v with wr := false }))[4]? = some none := by rw [List.getElem?_set, if_neg (by omega)]; exact h4
  simp only [Hp.put]
  simp [fills, AV.cellsOf, lay, Hp.new, h4, newBlk, AV.lf.lfs, AV.lf, hlf, dBlk]
def rrow (x : ItemD) (ss : List ScopeV) : NumV := numV (decide ((whoK x ss ss.length).length = 0)) (whoK x ss ss.length)
def rrows (xs : List ItemD) (ss : List ScopeV) (k : Nat) : List NumV := (xs.take k).map fun x => rrow x ss
theorem rrows_len {xs ss k} (h : k ≤ xs.length) : (rrows xs ss k).length = k := by unfold rrows; rw [List.length_map, List.length_take]; omega
theorem rrows_succ {xs : List ItemD} {ss k x} (h : xs[k]? = some x) : rrows xs ss (k + 1) = rrows xs ss k ++ [rrow x ss] := by
  unfold rrows; rw [List.take_add_one, h, List.map_append]; rfl
theorem refIndex_spec (H : NearLib prog) {G a b} {xs : List ItemD} {ss : List ScopeV} (v : ∀ L, TView itEnc ⟨G, L⟩ a xs) (w : ∀ L, TView scEnc ⟨G, L⟩ b ss) (hx : xs.length ≤ 1000000) (hs : ss.length ≤ 1000000) :
    Ev prog (.call "haberdash/haberdashref10.Index" [a, b] G) (.ret (.own (.o G.length) (xs.length * 1) 0 xs.length 1 none) (G ++ [some (dBlk (numE.row (rrows xs ss xs.length)) true (decide (xs.length = 0)))])) := by
  have na : ∀ ks, noRef ks a = true := fun ks => noRef_out (View.out (v []))
  have nb : ∀ ks, noRef ks b = true := fun ks => noRef_out (View.out (w []))
  refine call_of_fin H.rindex ?_
  simp only [f_ref10_Index_B, enter, List.length_cons, List.length_nil, List.replicate, Nat.reduceAdd, Nat.reduceSub, List.cons_append, List.nil_append]
  simp (disch := first | (simp only [DS, reduceCtorEq]; done) | omega) only [WS, St.guard, St.put, evalO, reduceCtorEq, reduceIte, Nat.reduceAdd, Nat.reduceEqDiff, new_s, virtBlk_eq, box_s, box_vs, box_vi, box_vb, px_load_l, px_load_o, loadB_s, storeX, storeB_s, alloc_s, lay, whole, Option.join_some, List.drop_zero, List.drop_succ_cons, List.take_succ_cons, List.take_zero, List.drop_nil, List.nil_append, List.cons_append, Nat.reduceLeDiff, Nat.zero_add, and_self, and_true, cells_int, cells_bool, cells_str, cells_string, cells_agg, cells_own, cells_ro, cells_ptr, cells_nil, AV.lf.lfs, AV.lf, px_build, fills, build_string, build_str, build_int, WDR_some, Nat.reduceLeDiff, Nat.le_refl, Bool.and_self]
  refine WC_count (fun k => ⟨f_ref10_Index_H1 a b (.own (.l 0) ((rrows xs ss k).length * 1) 0 (rrows xs ss k).length 1 none) (.v (.int .i64 (k : Nat))), ⟨G, [some (dBlk (numE.row (rrows xs ss k)) true (decide (k = 0))), none, none, none, none, none]⟩⟩) xs.length ?_ (fun k hk => ?_) ?_
  · exact clear_fre (by simp only [clear_nil, List.foldl_cons, List.foldl_nil, Option.some.injEq, LS, reduceCtorEq, reduceIte, Nat.reduceAdd]; rfl) (by rfl) (by simp only [f_ref10_Index_H1, List.all_cons, List.all_nil, noRef_v, noRef_dead, noRef_own, noRef_ptr, noRef_nil, Bool.and_true, Bool.true_and, Bool.and_self, List.contains_cons, List.contains_nil, Bool.or_false, Nat.reduceBEq, Bool.not_false, na, nb]) (by rfl)
  · have hlt' : (k : Int) < (xs.length : Int) := by omega
    obtain ⟨x, hxk⟩ : ∃ x, xs[k]? = some x := ⟨_, List.getElem?_eq_getElem hk⟩
    have hl := rrows_len (ss := ss) (Nat.le_of_lt hk)
    have hl1 : (rrows xs ss (k + 1)).length = k + 1 := rrows_len (ss := ss) (Nat.succ_le_of_lt hk)
    simp (disch := first | (simp only [DS, reduceCtorEq]; done) | omega) only [f_ref10_Index_L1, f_ref10_Index_H1, WS, St.guard, St.put, evalO, reduceCtorEq, reduceIte, Nat.reduceAdd, Nat.reduceEqDiff, new_s, virtBlk_eq, box_s, box_vs, box_vi, box_vb, px_load_l, px_load_o, loadB_s, storeX, storeB_s, alloc_s, lay, whole, Option.join_some, List.drop_zero, List.drop_succ_cons, List.take_succ_cons, List.take_zero, List.drop_nil, List.nil_append, List.cons_append, Nat.reduceLeDiff, Nat.zero_add, and_self, and_true, cells_int, cells_bool, cells_str, cells_string, cells_agg, cells_own, cells_ro, cells_ptr, cells_nil, AV.lf.lfs, AV.lf, px_build, fills, build_string, build_str, build_int, WDR_some, Nat.reduceLeDiff, Nat.le_refl, Bool.and_self, (v _).lenSlice, hlt', decide_true]
    refine WC_count (fun j => ⟨f_ref10_Index_H0 a b (.own (.l 0) ((rrows xs ss k).length * 1) 0 (rrows xs ss k).length 1 none) (.v (.int .i64 (k : Nat))) (.own (.l 1) ((whoK x ss j).length * 1) 0 (whoK x ss j).length 1 none) (.v (.int .i64 (j : Nat))),
      ⟨G, [some (dBlk (numE.row (rrows xs ss k)) true (decide (k = 0))), some (dBlk (intE.row (whoK x ss j)) true (decide ((whoK x ss j).length = 0))), none, none, none, none]⟩⟩) ss.length ?_ (fun j hj => ?_) ?_
    · exact clear_fre (by simp only [clear_nil, List.foldl_cons, List.foldl_nil, Option.some.injEq, LS, reduceCtorEq, reduceIte, Nat.reduceAdd]; rfl) (by rfl) (by simp only [f_ref10_Index_H0, List.all_cons, List.all_nil, noRef_v, noRef_dead, noRef_own, noRef_ptr, noRef_nil, Bool.and_true, Bool.true_and, Bool.and_self, List.contains_cons, List.contains_nil, Bool.or_false, Nat.reduceBEq, Bool.not_false, na, nb]) (by rfl)
    · have hlt2 : (j : Int) < (ss.length : Int) := by omega
      obtain ⟨s, hsj⟩ : ∃ s, ss[j]? = some s := ⟨_, List.getElem?_eq_getElem hj⟩
      have q := fun L => it_at (v L) hxk
      have ix : ∀ L, prim ⟨G, L⟩ (.indexAddr 2) [b, .v (.int .i64 (j : Nat))] = some (elemPtr b 2 j, ⟨G, L⟩) := fun L => (w L).index hj
      have ld : ∀ L, prim ⟨G, L⟩ (.load 2 true) [elemPtr b 2 j] = some (.agg [s.a, s.b], ⟨G, L⟩) := fun L => (w L).load hsj
      have ix2 : ∀ L, prim ⟨G, L⟩ (.indexAddr 4) [a, .v (.int .i64 (k : Nat))] = some (elemPtr a 4 k, ⟨G, L⟩) := fun L => (v L).index hk
      have ld2 : ∀ L, prim ⟨G, L⟩ (.load 4 true) [elemPtr a 4 k] = some (.agg x.cells, ⟨G, L⟩) := fun L => (v L).load hxk
      simp (disch := first | (simp only [DS, reduceCtorEq]; done) | omega) only [f_ref10_Index_L0, f_ref10_Index_H0, WS, St.guard, St.put, evalO, reduceCtorEq, reduceIte, Nat.reduceAdd, Nat.reduceEqDiff, new_s, virtBlk_eq, box_s, box_vs, box_vi, box_vb, px_load_l, px_load_o, loadB_s, storeX, storeB_s, alloc_s, lay, whole, Option.join_some, List.drop_zero, List.drop_succ_cons, List.take_succ_cons, List.take_zero, List.drop_nil, List.nil_append, List.cons_append, Nat.reduceLeDiff, Nat.zero_add, and_self, and_true, cells_int, cells_bool, cells_str, cells_string, cells_agg, cells_own, cells_ro, cells_ptr, cells_nil, AV.lf.lfs, AV.lf, px_build, fills, build_string, build_str, build_int, WDR_some, Nat.reduceLeDiff, Nat.le_refl, Bool.and_self, (w _).lenSlice, hlt2, decide_true, ix, ld, ix2, ld2]
      refine WDP_r (r := .v (.bool (hasI s.n s.c x))) (fun X _ => by exact refHas_spec H.toScopeLib ((s.va _).into) ((s.vb _).into) s.ln s.lc) rfl (by unfold Good; dsimp only; repeat (first | exact trivial | rw [goodN] | refine ⟨dBlk_good, ?_⟩ | refine goodD (by assumption) ?_ | refine ⟨sBlk_good (by first | rfl | assumption | (simp [AV.labs.labss, AV.labs, refLt]; done)), ?_⟩)) ?_
      have hw := whoK_succ (x := x) hsj
      have hwl := whoK_len (x := x) (ss := ss) (k := j)
      cases hh : hasI s.n s.c x
      · rw [hh, if_neg (by decide), List.append_nil] at hw
        simp (disch := first | (simp only [DS, reduceCtorEq]; done) | omega) only [WS, St.guard, St.put, evalO, reduceCtorEq, reduceIte, Nat.reduceAdd, Nat.reduceEqDiff, new_s, virtBlk_eq, box_s, box_vs, box_vi, box_vb, px_load_l, px_load_o, loadB_s, storeX, storeB_s, alloc_s, lay, whole, Option.join_some, List.drop_zero, List.drop_succ_cons, List.take_succ_cons, List.take_zero, List.drop_nil, List.nil_append, List.cons_append, Nat.reduceLeDiff, Nat.zero_add, and_self, and_true, cells_int, cells_bool, cells_str, cells_string, cells_agg, cells_own, cells_ro, cells_ptr, cells_nil, AV.lf.lfs, AV.lf, px_build, fills, build_string, build_str, build_int, WDR_some, Nat.reduceLeDiff, Nat.le_refl, Bool.and_self, vBin_add_i64]
        exact clear_fre (by simp only [clear_nil, List.foldl_cons, List.foldl_nil, Option.some.injEq, LS, reduceCtorEq, reduceIte, Nat.reduceAdd, hw]; rfl) (by rw [hw]; rfl) (by simp only [f_ref10_Index_H0, List.all_cons, List.all_nil, noRef_v, noRef_dead, noRef_own, noRef_ptr, noRef_nil, Bool.and_true, Bool.true_and, Bool.and_self, List.contains_cons, List.contains_nil, Bool.or_false, Nat.reduceBEq, Bool.not_false, na, nb]) (by rfl)
      · rw [hh, if_pos rfl] at hw
        simp (disch := first | (simp only [DS, reduceCtorEq]; done) | omega) only [WS, St.guard, St.put, evalO, reduceCtorEq, reduceIte, Nat.reduceAdd, Nat.reduceEqDiff, new_s, virtBlk_eq, box_s, box_vs, box_vi, box_vb, px_load_l, px_load_o, loadB_s, storeX, storeB_s, alloc_s, lay, whole, Option.join_some, List.drop_zero, List.drop_succ_cons, List.take_succ_cons, List.take_zero, List.drop_nil, List.nil_append, List.cons_append, Nat.reduceLeDiff, Nat.zero_add, and_self, and_true, cells_int, cells_bool, cells_str, cells_string, cells_agg, cells_own, cells_ro, cells_ptr, cells_nil, AV.lf.lfs, AV.lf, px_build, fills, build_string, build_str, build_int, WDR_some, Nat.reduceLeDiff, Nat.le_refl, Bool.and_self]
        refine (WR_eq (append_T (T := intE) (j := 1) (m := 2) (xs := whoK x ss j) (x := (j : Int)) (v := decide ((whoK x ss j).length = 0)) (by exact rfl) (by exact rfl) (by unfold room; omega) (by simp))).2 ?_
        have hwl2 : (whoK x ss (j + 1)).length = (whoK x ss j).length + 1 := by rw [hw]; simp
        simp (disch := first | (simp only [DS, reduceCtorEq]; done) | omega) only [WS, St.guard, St.put, evalO, reduceCtorEq, reduceIte, Nat.reduceAdd, Nat.reduceEqDiff, new_s, virtBlk_eq, box_s, box_vs, box_vi, box_vb, px_load_l, px_load_o, loadB_s, storeX, storeB_s, alloc_s, lay, whole, Option.join_some, List.drop_zero, List.drop_succ_cons, List.take_succ_cons, List.take_zero, List.drop_nil, List.nil_append, List.cons_append, Nat.reduceLeDiff, Nat.zero_add, and_self, and_true, cells_int, cells_bool, cells_str, cells_string, cells_agg, cells_own, cells_ro, cells_ptr, cells_nil, AV.lf.lfs, AV.lf, px_build, fills, build_string, build_str, build_int, WDR_some, Nat.reduceLeDiff, Nat.le_refl, Bool.and_self, vBin_add_i64]
        exact clear_fre (by simp only [clear_nil, List.foldl_cons, List.foldl_nil, Option.some.injEq, LS, reduceCtorEq, reduceIte, Nat.reduceAdd, hwl2]; rfl) (by rw [hwl2, hw]; rfl) (by simp only [f_ref10_Index_H0, List.all_cons, List.all_nil, noRef_v, noRef_dead, noRef_own, noRef_ptr, noRef_nil, Bool.and_true, Bool.true_and, Bool.and_self, List.contains_cons, List.contains_nil, Bool.or_false, Nat.reduceBEq, Bool.not_false, na, nb]) (by rfl)
    · simp (disch := first | (simp only [DS, reduceCtorEq]; done) | omega) only [f_ref10_Index_L0, f_ref10_Index_H0, WS, St.guard, St.put, evalO, reduceCtorEq, reduceIte, Nat.reduceAdd, Nat.reduceEqDiff, new_s, virtBlk_eq, box_s, box_vs, box_vi, box_vb, px_load_l, px_load_o, loadB_s, storeX, storeB_s, alloc_s, lay, whole, Option.join_some, List.drop_zero, List.drop_succ_cons, List.take_succ_cons, List.take_zero, List.drop_nil, List.nil_append, List.cons_append, Nat.reduceLeDiff, Nat.zero_add, and_self, and_true, cells_int, cells_bool, cells_str, cells_string, cells_agg, cells_own, cells_ro, cells_ptr, cells_nil, AV.lf.lfs, AV.lf, px_build, fills, build_string, build_str, build_int, WDR_some, Nat.reduceLeDiff, Nat.le_refl, Bool.and_self, (w _).lenSlice, decide_false]
      refine (WR_eq (build_frz (cells := intE.row (whoK x ss ss.length)) (n := (whoK x ss ss.length).length) (v := decide ((whoK x ss ss.length).length = 0)) rfl rfl (by rw [intE_row, List.length_map]) (intE.row_lf _))).2 ?_
      simp (disch := first | (simp only [DS, reduceCtorEq]; done) | omega) only [WS, St.guard, St.put, evalO, reduceCtorEq, reduceIte, Nat.reduceAdd, Nat.reduceEqDiff, new_s, virtBlk_eq, box_s, box_vs, box_vi, box_vb, px_load_l, px_load_o, loadB_s, storeX, storeB_s, alloc_s, lay, whole, Option.join_some, List.drop_zero, List.drop_succ_cons, List.take_succ_cons, List.take_zero, List.drop_nil, List.nil_append, List.cons_append, Nat.reduceLeDiff, Nat.zero_add, and_self, and_true, cells_int, cells_bool, cells_str, cells_string, cells_agg, cells_own, cells_ro, cells_ptr, cells_nil, AV.lf.lfs, AV.lf, px_build, fills, build_string, build_str, build_int, WDR_some, Nat.reduceLeDiff, Nat.le_refl, Bool.and_self]
      refine (WR_eq (append_F (T := numE) (j := 0) (m := 4) (xs := rrows xs ss k) (x := rrow x ss) (v := decide (k = 0)) (numE_frz _) (by exact rfl) (by rw [intE_row]; exact rfl) (by rw [hl]; unfold room; omega) (by simp))).2 ?_
      simp (disch := first | (simp only [DS, reduceCtorEq]; done) | omega) only [WS, St.guard, St.put, evalO, reduceCtorEq, reduceIte, Nat.reduceAdd, Nat.reduceEqDiff, new_s, virtBlk_eq, box_s, box_vs, box_vi, box_vb, px_load_l, px_load_o, loadB_s, storeX, storeB_s, alloc_s, lay, whole, Option.join_some, List.drop_zero, List.drop_succ_cons, List.take_succ_cons, List.take_zero, List.drop_nil, List.nil_append, List.cons_append, Nat.reduceLeDiff, Nat.zero_add, and_self, and_true, cells_int, cells_bool, cells_str, cells_string, cells_agg, cells_own, cells_ro, cells_ptr, cells_nil, AV.lf.lfs, AV.lf, px_build, fills, build_string, build_str, build_int, WDR_some, Nat.reduceLeDiff, Nat.le_refl, Bool.and_self, vBin_add_i64]
      exact clear_fre (by simp only [clear_nil, List.foldl_cons, List.foldl_nil, Option.some.injEq, LS, reduceCtorEq, reduceIte, Nat.reduceAdd, hl, hl1]; rfl) (by rw [rrows_succ hxk]; rfl) (by simp only [f_ref10_Index_H1, List.all_cons, List.all_nil, noRef_v, noRef_dead, noRef_own, noRef_ptr, noRef_nil, Bool.and_true, Bool.true_and, Bool.and_self, List.contains_cons, List.contains_nil, Bool.or_false, Nat.reduceBEq, Bool.not_false, na, nb]) (by rfl)
  · have hl := rrows_len (ss := ss) (Nat.le_refl xs.length)
    simp (disch := first | (simp only [DS, reduceCtorEq]; done) | omega) only [f_ref10_Index_L1, f_ref10_Index_H1, WS, St.guard, St.put, evalO, reduceCtorEq, reduceIte, Nat.reduceAdd, Nat.reduceEqDiff, (v _).lenSlice, decide_false, fin_tmp, or_true, hl]
    exact leave_own1 (by rfl) (by rfl)
end Go.AM
