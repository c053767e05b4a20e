import Derived.Test.YtdcnjckkcfoppaaJourC
import Derived.Test.YtdcnjckkcfoppaaJourD
set_option linter.unusedVariables false
set_option linter.unusedSimpArgs false
namespace Go.AM
variable {prog : String → Option IFn}
variable {G L : List (Option Blk)} {P : DPos} {D : DskD} {n q p : Nat} {B : Option Blk} {cs : List AV} {J : JD}
def rcNext (D : DskD) (J : JD) (least : BitVec 32) (k : Nat) (ep : BitVec 32) : Bool :=
  lvOK D J (J.used + k) && ((lvX D J (J.used + k)).n == BitVec.ofNat 32 J.recs.length && ((lvX D J (J.used + k)).f == decide (k = 0) && ((decide (k = 0) || (lvX D J (J.used + k)).e == ep) && !((lvX D J (J.used + k)).e.toNat < least.toNat))))
def rcF (D : DskD) (J : JD) (least : BitVec 32) : Nat → Nat → Txt → BitVec 32 → Option (Txt × Nat × BitVec 32)
  | 0, _, _, _ => none
  | f + 1, k, b, ep => if rcNext D J least k ep then
      if (lvX D J (J.used + k)).l then some (b ++ (lvX D J (J.used + k)).d, k + 1, (lvX D J (J.used + k)).e) else rcF D J least f (k + 1) (b ++ (lvX D J (J.used + k)).d) (lvX D J (J.used + k)).e
    else none
theorem op_callS {f xs site esz len cells} {h h' : Hp} (C : AV → AV) (hC : ∀ ρ a, (C a).ren ρ = C (a.ren ρ))
    (he : ∃ r Bs, Ev prog (.call f (xs.map (AV.ren (up h.G.length))) h.into) (.ret (C r) (h'.into ++ Bs)) ∧ RetSlice h'.into r Bs esz len cells)
    (hG : h'.G.length = h.G.length) (hL : h'.L.length = h.L.length) (hg : Good h) (hg' : Good h') (hf : h.L[site]? = some none) (hf' : h'.L[site]? = some none) :
    ∃ a B, SliceAt site a B esz len cells ∧ Ev prog (.op (.call f [site]) xs h) (.val (C a) ⟨h'.G, h'.L.set site B⟩) := by
  obtain ⟨r, Bs, he, hr⟩ := he
  have hlen : Bs.length ≤ 1 := by rcases hr.one with rfl | ⟨b, rfl, _⟩ <;> simp
  obtain ⟨B, hB, hat⟩ := retSlice_at (site := site) hr
  rw [hG, hL] at hB hat
  refine ⟨_, B, hat, .opCall hg.okBlks he ?_⟩
  rw [back_into (h := h) (h' := h') (sites := [site]) hG hL hg'.refsOK (by simpa using hlen) (by simp) (by simp [free_of_get hf]) (by simp [free_of_get hf'])]
  simp only [List.length_singleton, hB, putAll, hC]
theorem fin_tmp3 {t u v} {s : St} : fin [.tmp t, .tmp u, .tmp v] s = s.h.leave (.tup [s.env.getD t .dead, s.env.getD u .dead, s.env.getD v .dead]) := rfl
def recAns : Option (Txt × Nat × BitVec 32) → AV → AV
  | some (b, k, e), r => .tup [r, .v (.int .i64 (k : Nat)), .v (u32 e)]
  | none, _ => .tup [.v (.slice none 0 0), .v (.int .i64 0), .v (u32 0#32)]
def recRet (G : List (Option Blk)) : Option (Txt × Nat × BitVec 32) → AV → List (Option Blk) → Prop
  | some (b, k, e), r, Bs => r = .own (.o G.length) b.length 0 b.length 1 none ∧ Bs = [some (dBlk (b.map byteAV) true false)]
  | none, _, Bs => Bs = []
set_option maxHeartbeats 2000000 in
theorem record_spec (H : TakeLib prog) (hp : prog "(*haberdash/haberdashref06.Journal).record" = some f___ref06_Journal__record) (h : OOk G.length P q p D.b.length) (hf : J.frm + J.n ≤ D.b.length) (hb : D.b.length ≤ 20000) (hu : J.used ≤ J.n) {least : BitVec 32} :
    ∃ r Bs, Ev prog (.call "(*haberdash/haberdashref06.Journal).record" [.ptr (.o p) 8 0, .v (.int .i64 (J.used : Nat)), .v (u32 (BitVec.ofNat 32 J.recs.length)), .v (u32 least)] (dj G P q p D.sw B (yC .o P.p q J)))
      (.ret (recAns (rcF D J least (J.n - J.used + 1) 0 [] 0#32) r) (dj G P q p D.sw B (yC .o P.p q J) ++ Bs)) ∧ recRet (dj G P q p D.sw B (yC .o P.p q J)) (rcF D J least (J.n - J.used + 1) 0 [] 0#32) r Bs := by
  obtain ⟨R, hR⟩ : ∃ R, rcF D J least (J.n - J.used + 1) 0 [] 0#32 = R := ⟨_, rfl⟩
  rw [hR]
  have hroom : room = 140737488355328 := rfl
  obtain ⟨r, G2, he, a', Bs, rfl, rfl, hr⟩ := call_ex (prog := prog) (P := fun r G2 => ∃ a' Bs, r = recAns R a' ∧ G2 = dj G P q p D.sw B (yC .o P.p q J) ++ Bs ∧ recRet (dj G P q p D.sw B (yC .o P.p q J)) R a' Bs)
    hp (args := [.ptr (.o p) 8 0, .v (.int .i64 (J.used : Nat)), .v (u32 (BitVec.ofNat 32 J.recs.length)), .v (u32 least)]) (G := dj G P q p D.sw B (yC .o P.p q J)) (by
    simp only [f___ref06_Journal__record_B, enter, List.length_cons, List.length_nil, List.replicate, Nat.reduceAdd, Nat.reduceSub, List.cons_append, List.nil_append]
    have hpp := h.pg
    have hd : P.Ok (oset G q p B (yC .o P.p q J)).length D.b.length := by rw [oset_len]; exact h.d
    have nv : ∀ G, prim ⟨G, [none, none, none, none]⟩ (.nilv 0 1) [.v (.slice none 0 0)] = some (.own (.l 0) 0 0 0 1 none, ⟨G, [accB [], none, none, none]⟩) := fun G => rfl
    have l0 : ∀ L, prim ⟨dj G P q p D.sw B (yC .o P.p q J), L⟩ (.load 1 false) [.ptr (.o p) 8 0] = some (.ptr (.o P.p) 5 0, ⟨dj G P q p D.sw B (yC .o P.p q J), L⟩) := fun L => dj_ld h (i := 0) rfl rfl
    have l1 : ∀ L, prim ⟨dj G P q p D.sw B (yC .o P.p q J), L⟩ (.load 1 false) [.ptr (.o p) 8 1] = some (.v (.int .i64 (J.frm : Nat)), ⟨dj G P q p D.sw B (yC .o P.p q J), L⟩) := fun L => dj_ld h (i := 1) rfl rfl
    have l2 : ∀ L, prim ⟨dj G P q p D.sw B (yC .o P.p q J), L⟩ (.load 1 false) [.ptr (.o p) 8 2] = some (.v (.int .i64 (J.n : Nat)), ⟨dj G P q p D.sw B (yC .o P.p q J), L⟩) := fun L => dj_ld h (i := 2) rfl rfl
    have dl : ∀ L, prim ⟨dj G P q p D.sw B (yC .o P.p q J), L⟩ (.load 1 false) [.ptr (.o P.p) 5 0] = some (dav0 .o P D.sw, ⟨dj G P q p D.sw B (yC .o P.p q J), L⟩) := fun L => by rw [dj_sw h]; exact d_ld0 hd
    have dv : ∀ L, TView secE ⟨dj G P q p D.sw B (yC .o P.p q J), L⟩ (dav0 .o P D.sw) D.b := fun L => by rw [dj_sw h]; exact d_v0 hd (D := D.sw) rfl
    have gd : ∀ {L}, Dat L → Good ⟨dj G P q p D.sw B (yC .o P.p q J), L⟩ := fun hL => goodX hL
    have dA : ∀ b, Dat [accB b, none, none, none] := fun b => by intro X hX c e; subst e; simp [accB] at hX; subst hX; rfl
    have nr : ∀ m, noRef [1, 2, 3] (.own (.l 0) m 0 m 1 none) = true := fun m => by rw [noRef_own]; rfl
    simp (disch := first | (simp only [DS, reduceCtorEq]; done) | omega) only [WS, St.guard, St.put, evalO, reduceCtorEq, reduceIte, Nat.reduceAdd, Nat.reduceEqDiff, nv]
    refine WC_loop (Inv := fun m st => ∃ k b ep, st = ⟨f___ref06_Journal__record_H0 (.ptr (.o p) 8 0) (.v (.int .i64 (J.used : Nat))) (.v (u32 (BitVec.ofNat 32 J.recs.length))) (.v (u32 least)) (.own (.l 0) b.length 0 b.length 1 none) (.v (u32 ep)) (.v (.int .i64 (k : Nat))), ⟨dj G P q p D.sw B (yC .o P.p q J), [accB b, none, none, none]⟩⟩ ∧ rcF D J least m k b ep = R ∧ 1 ≤ m ∧ m + k = J.n - J.used + 1 ∧ b.length ≤ 46 * k)
      (J.n - J.used + 1) ⟨_, ?_, 0, [], 0#32, rfl, hR, by omega, by omega, by simp⟩ ?_
    · exact clear_fre (by simp only [clear_nil, List.foldl_cons, List.foldl_nil, Option.some.injEq, LS, reduceCtorEq, reduceIte, Nat.reduceAdd] <;> rfl) (by rfl) (by rfl) (by rfl)
    rintro m st ⟨k, b, ep, rfl, hT, h1, hm, hbl⟩
    obtain ⟨f, rfl⟩ : ∃ f, m = f + 1 := ⟨m - 1, by omega⟩
    have hT' : (if rcNext D J least k ep then
      if (lvX D J (J.used + k)).l then some (b ++ (lvX D J (J.used + k)).d, k + 1, (lvX D J (J.used + k)).e) else rcF D J least f (k + 1) (b ++ (lvX D J (J.used + k)).d) (lvX D J (J.used + k)).e
      else none) = R := hT
    have euk : (J.used : Int) + (k : Int) = ((J.used + k : Nat) : Int) := by omega
    have stop : ∀ (hc : none = R) {X : List (Option Blk)}, ∃ r G2, (⟨dj G P q p D.sw B (yC .o P.p q J), X⟩ : Hp).leave (.tup [.v (.slice none 0 0), .v (.int .i64 0), .v (.int .u32 0)]) = some (r, G2) ∧ ∃ a' Bs, r = recAns R a' ∧ G2 = dj G P q p D.sw B (yC .o P.p q J) ++ Bs ∧ recRet (dj G P q p D.sw B (yC .o P.p q J)) R a' Bs := fun hc X => by
      subst hc
      exact ⟨_, _, leave_lf rfl, .dead, [], rfl, by rw [List.append_nil], rfl⟩
    by_cases hin : J.used + k < J.n
    · have hlt : ((J.used + k : Nat) : Int) < (J.n : Int) := by omega
      simp (disch := first | (simp only [DS, reduceCtorEq]; done) | omega) only [f___ref06_Journal__record_L0, f___ref06_Journal__record_H0, WS, St.guard, St.put, evalO, reduceCtorEq, reduceIte, Nat.reduceAdd, Nat.reduceEqDiff, vBin_add_i64, euk, l2, hlt, decide_true]
      obtain ⟨x, hx⟩ : ∃ x, lvX D J (J.used + k) = x := ⟨_, rfl⟩
      obtain ⟨ok, hok⟩ : ∃ ok, lvOK D J (J.used + k) = ok := ⟨_, rfl⟩
      have hT2 := hT'
      unfold rcNext at hT2
      rw [hx, hok] at hT2
      have hRk : ok = true → x.right = true := fun h => by have := (lvOK_right (D := D) (J := J) (i := J.used + k) (by rw [hok]; exact h)).2; rwa [hx] at this
      have hi : J.frm + (J.used + k) < D.b.length := by omega
      obtain ⟨w, hw⟩ : ∃ w, D.b[J.frm + (J.used + k)] = w := ⟨_, rfl⟩
      have hbi : D.b[J.frm + (J.used + k)]? = some w := by rw [← hw]; exact List.getElem?_eq_getElem hi
      have hsec : secAt D.b ((J.frm + (J.used + k) : Nat) : Int) = w := by unfold secAt; rw [Int.toNat_natCast, List.getD_eq_getElem?_getD, hbi]; rfl
      have hxw : takeX w.1 = x := by rw [← hx]; unfold lvX; rw [if_pos hin, hsec]
      have hokw : takeOK w.1 = ok := by rw [← hok]; unfold lvOK; rw [if_pos hin, hsec]
      have ef1 : (J.frm : Int) + (J.used : Int) = ((J.frm + J.used : Nat) : Int) := by omega
      have ef2 : ((J.frm + J.used : Nat) : Int) + (k : Int) = ((J.frm + (J.used + k) : Nat) : Int) := by omega
      have ix : ∀ L, prim ⟨dj G P q p D.sw B (yC .o P.p q J), L⟩ (.indexAddr 64) [dav0 .o P D.sw, .v (.int .i64 ((J.frm + (J.used + k) : Nat) : Int))] = some (elemPtr (dav0 .o P D.sw) 64 (J.frm + (J.used + k)), ⟨dj G P q p D.sw B (yC .o P.p q J), L⟩) := fun L => (dv L).index hi
      have lw : ∀ L, prim ⟨dj G P q p D.sw B (yC .o P.p q J), L⟩ (.load 64 true) [elemPtr (dav0 .o P D.sw) 64 (J.frm + (J.used + k))] = some (.agg (w.1.map byteAV), ⟨dj G P q p D.sw B (yC .o P.p q J), L⟩) := fun L => (dv L).load hbi
      refine WDP_er (by exact gd (dA _)) rfl ?_
      refine ⟨_, _, l0 _, rfl, .inr ⟨rfl, gd (dA _)⟩, ?_⟩
      simp (disch := first | (simp only [DS, reduceCtorEq]; done) | omega) only [WS, St.guard, St.put, evalO, reduceCtorEq, reduceIte, Nat.reduceAdd, Nat.reduceEqDiff, WDX_some, reduceIte, if_true, if_false, Bool.and_true, Bool.true_and, true_and, Bool.false_eq_true, false_or, true_or, Hp.over, AM.over, over_nil, List.foldl_cons, List.foldl_nil, List.set_cons_zero, List.set_cons_succ, List.getElem?_cons_zero, List.getElem?_cons_succ, Option.join_some, List.length_cons, List.length_nil, Prim.sites, List.cons_append, List.nil_append]
      refine WDP_er (by exact gd (dA _)) rfl ?_
      refine ⟨_, _, dl _, rfl, .inr ⟨rfl, gd (dA _)⟩, ?_⟩
      simp (disch := first | (simp only [DS, reduceCtorEq]; done) | omega) only [WS, St.guard, St.put, evalO, reduceCtorEq, reduceIte, Nat.reduceAdd, Nat.reduceEqDiff, WDX_some, reduceIte, if_true, if_false, Bool.and_true, Bool.true_and, true_and, Bool.false_eq_true, false_or, true_or, Hp.over, AM.over, over_nil, List.foldl_cons, List.foldl_nil, List.set_cons_zero, List.set_cons_succ, List.getElem?_cons_zero, List.getElem?_cons_succ, Option.join_some, List.length_cons, List.length_nil, Prim.sites, List.cons_append, List.nil_append]
      refine WDP_er (by exact gd (dA _)) rfl ?_
      refine ⟨_, _, l1 _, rfl, .inr ⟨rfl, gd (dA _)⟩, ?_⟩
      simp (disch := first | (simp only [DS, reduceCtorEq]; done) | omega) only [WS, St.guard, St.put, evalO, reduceCtorEq, reduceIte, Nat.reduceAdd, Nat.reduceEqDiff, WDX_some, reduceIte, if_true, if_false, Bool.and_true, Bool.true_and, true_and, Bool.false_eq_true, false_or, true_or, Hp.over, AM.over, over_nil, List.foldl_cons, List.foldl_nil, List.set_cons_zero, List.set_cons_succ, List.getElem?_cons_zero, List.getElem?_cons_succ, Option.join_some, List.length_cons, List.length_nil, Prim.sites, List.cons_append, List.nil_append, vBin_add_i64, ef1, ef2, ix]
      refine WDP_er (by exact gd (dA _)) rfl ?_
      refine ⟨_, _, lw _, rfl, .inr ⟨rfl, gd (dA _)⟩, ?_⟩
      simp (disch := first | (simp only [DS, reduceCtorEq]; done) | omega) only [WS, St.guard, St.put, evalO, reduceCtorEq, reduceIte, Nat.reduceAdd, Nat.reduceEqDiff, WDX_some, reduceIte, if_true, if_false, Bool.and_true, Bool.true_and, true_and, Bool.false_eq_true, false_or, true_or, Hp.over, AM.over, over_nil, List.foldl_cons, List.foldl_nil, List.set_cons_zero, List.set_cons_succ, List.getElem?_cons_zero, List.getElem?_cons_succ, Option.join_some, List.length_cons, List.length_nil, Prim.sites, List.cons_append, List.nil_append]
      have ht := RefTake_spec H (G := (⟨dj G P q p D.sw B (yC .o P.p q J), [accB b, none, none, none]⟩ : Hp).into) w.2
      rw [hxw, hokw] at ht
      obtain ⟨a, B1, hat, hev⟩ := op_callS (site := 1) (f := "haberdash/haberdashref04.Take") (xs := [.agg (w.1.map byteAV)]) (h := ⟨dj G P q p D.sw B (yC .o P.p q J), [accB b, none, none, none]⟩) (h' := ⟨dj G P q p D.sw B (yC .o P.p q J), [accB b, none, none, none]⟩) (fun a => .tup [.agg (x.cells a), .v (.bool ok)]) (fun _ _ => rfl) (by rw [List.map_cons, ren_bytes]; exact ht) rfl rfl (gd (dA _)) (gd (dA _)) rfl rfl
      have g1 : Good ⟨dj G P q p D.sw B (yC .o P.p q J), [accB b, B1, none, none]⟩ := ⟨dBlk_good, goodL_opt (fun b hb => hat.good hb) trivial⟩
      have ho : (⟨dj G P q p D.sw B (yC .o P.p q J), [accB b, none, none, none]⟩ : Hp).over [2] (fun _ => none) = ⟨dj G P q p D.sw B (yC .o P.p q J), [accB b, none, none, none]⟩ := rfl
      have hev2 : Ev prog (.op (.call "haberdash/haberdashref04.Take" [1]) [.agg (w.1.map byteAV)] ((⟨dj G P q p D.sw B (yC .o P.p q J), [accB b, none, none, none]⟩ : Hp).over [2] (fun _ => none))) (.val (.tup [.agg (x.cells a), .v (.bool ok)]) ⟨dj G P q p D.sw B (yC .o P.p q J), [accB b, B1, none, none]⟩) := by rw [ho]; exact hev
      refine WDP_go (h1 := ⟨dj G P q p D.sw B (yC .o P.p q J), [accB b, B1, none, none]⟩) hev2 (by rfl) (by exact gd (dA _)) (by rfl) (.inr ⟨by rfl, by exact g1⟩) ?_
      simp (disch := first | (simp only [DS, reduceCtorEq]; done) | omega) only [WS, St.guard, St.put, evalO, reduceCtorEq, reduceIte, Nat.reduceAdd, Nat.reduceEqDiff, WDX_some, reduceIte, if_true, if_false, Bool.and_true, Bool.true_and, true_and, Bool.false_eq_true, false_or, true_or, Hp.over, AM.over, over_nil, List.foldl_cons, List.foldl_nil, List.set_cons_zero, List.set_cons_succ, List.getElem?_cons_zero, List.getElem?_cons_succ, Option.join_some, List.length_cons, List.length_nil, Prim.sites, List.cons_append, List.nil_append]
      have al : ∀ G b1, prim ⟨G, [b1, none, none, none]⟩ (.alloc 2 [.int .u32 0, .int .u32 0, .bool false, .bool false, .slice none 0 0] []) [] = some (.ptr (.l 2) 5 0, ⟨G, [b1, none, some (sBlk noLeaf true), none]⟩) := fun G b1 => rfl
      have g2 : ∀ {cells d}, (AV.labs.labss cells).all (refLt (dj G P q p D.sw B (yC .o P.p q J)).length 2) = true → Good ⟨dj G P q p D.sw B (yC .o P.p q J), [accB b, B1, some (sBlk cells d), none]⟩ := fun hc => ⟨dBlk_good, goodL_opt (fun b hb => hat.good hb) ⟨sBlk_good hc, trivial⟩⟩
      refine WDP_er (by exact g1) rfl ?_
      refine ⟨_, _, al _ _, rfl, .inr ⟨rfl, by exact g2 rfl⟩, ?_⟩
      simp (disch := first | (simp only [DS, reduceCtorEq]; done) | omega) only [WS, St.guard, St.put, evalO, reduceCtorEq, reduceIte, Nat.reduceAdd, Nat.reduceEqDiff, WDX_some, reduceIte, if_true, if_false, Bool.and_true, Bool.true_and, true_and, Bool.false_eq_true, false_or, true_or, Hp.over, AM.over, over_nil, List.foldl_cons, List.foldl_nil, List.set_cons_zero, List.set_cons_succ, List.getElem?_cons_zero, List.getElem?_cons_succ, Option.join_some, List.length_cons, List.length_nil, Prim.sites, List.cons_append, List.nil_append]
      refine WDP_of (.prim (store_s (j := 2) (n := 5) (off := 0) (sz := 5) (xs := x.cells a) rfl rfl rfl rfl (by omega))) (by exact g2 rfl) (by exact g2 (by
        have := hat.ref (g := (dj G P q p D.sw B (yC .o P.p q J)).length) (k := 2) (by omega)
        simpa [LeafD.cells, AV.labs.labss, AV.labs, lay] using this)) rfl rfl ?_
      rw [show lay noLeaf 0 (x.cells a) = x.cells a from rfl]
      generalize (true && AV.lf.lfs (x.cells a)) = dd
      simp (disch := first | (simp only [DS, reduceCtorEq]; done) | omega) only [WS, St.guard, St.put, evalO, reduceCtorEq, reduceIte, Nat.reduceAdd, Nat.reduceEqDiff]
      have ld0 : ∀ G b1 b2 b4, prim ⟨G, [b1, b2, some (sBlk (x.cells a) dd), b4]⟩ (.load 1 false) [.ptr (.l 2) 5 0] = some (.v (u32 x.e), ⟨G, [b1, b2, some (sBlk (x.cells a) dd), b4]⟩) := fun _ _ _ _ => rfl
      have ld1 : ∀ G b1 b2 b4, prim ⟨G, [b1, b2, some (sBlk (x.cells a) dd), b4]⟩ (.load 1 false) [.ptr (.l 2) 5 1] = some (.v (u32 x.n), ⟨G, [b1, b2, some (sBlk (x.cells a) dd), b4]⟩) := fun _ _ _ _ => rfl
      have ld2 : ∀ G b1 b2 b4, prim ⟨G, [b1, b2, some (sBlk (x.cells a) dd), b4]⟩ (.load 1 false) [.ptr (.l 2) 5 2] = some (.v (.bool x.f), ⟨G, [b1, b2, some (sBlk (x.cells a) dd), b4]⟩) := fun _ _ _ _ => rfl
      have ld3 : ∀ G b1 b2 b4, prim ⟨G, [b1, b2, some (sBlk (x.cells a) dd), b4]⟩ (.load 1 false) [.ptr (.l 2) 5 3] = some (.v (.bool x.l), ⟨G, [b1, b2, some (sBlk (x.cells a) dd), b4]⟩) := fun _ _ _ _ => rfl
      have ld4 : ∀ G b1 b2 b4, prim ⟨G, [b1, b2, some (sBlk (x.cells a) dd), b4]⟩ (.load 1 false) [.ptr (.l 2) 5 4] = some (a, ⟨G, [b1, b2, some (sBlk (x.cells a) dd), b4]⟩) := fun _ _ _ _ => rfl
      have ek : ((k : Int) == 0) = decide (k = 0) := by
        by_cases h : k = 0
        · subst h; rfl
        · rw [decide_eq_false h, beq_eq_false_iff_ne]; omega
      have eg : decide ((k : Int) > 0) = !decide (k = 0) := by
        by_cases h : k = 0
        · subst h; rfl
        · rw [decide_eq_false h, decide_eq_true (by omega)]; rfl
      cases ok with
      | false =>
        have hc : none = R := hT2
        simp (disch := first | (simp only [DS, reduceCtorEq]; done) | omega) only [WS, St.guard, St.put, evalO, reduceCtorEq, reduceIte, Nat.reduceAdd, Nat.reduceEqDiff, Bool.not_false, fin_tmp3]
        exact ⟨by simp, stop hc⟩
      | true =>
      have hxl := right_len (hRk rfl)
      simp only [Bool.true_and] at hT2
      cases h1 : (x.n == BitVec.ofNat 32 J.recs.length) with
      | false =>
        rw [h1] at hT2
        have h1' : (x.n != BitVec.ofNat 32 J.recs.length) = true := by rw [bne, h1]; rfl
        simp (disch := first | (simp only [DS, reduceCtorEq]; done) | omega) only [WS, St.guard, St.put, evalO, reduceCtorEq, reduceIte, Nat.reduceAdd, Nat.reduceEqDiff, Bool.not_true, ld1, vBin_neq_u32, h1', fin_tmp3]
        exact ⟨by simp, stop hT2⟩
      | true =>
      have h1' : (x.n != BitVec.ofNat 32 J.recs.length) = false := by rw [bne, h1]; rfl
      rw [h1] at hT2
      cases h2 : (x.f == decide (k = 0)) with
      | false =>
        rw [h2] at hT2
        simp (disch := first | (simp only [DS, reduceCtorEq]; done) | omega) only [WS, St.guard, St.put, evalO, reduceCtorEq, reduceIte, Nat.reduceAdd, Nat.reduceEqDiff, Bool.not_true, ld1, ld2, vBin_neq_u32, h1', ek, h2, fin_tmp3]
        exact ⟨by simp, stop hT2⟩
      | true =>
      rw [h2] at hT2
      cases h4 : (decide (k = 0) || x.e == ep) with
      | false =>
        rw [h4] at hT2
        obtain ⟨h5, h6⟩ := Bool.or_eq_false_iff.1 h4
        have h6' : (x.e != ep) = true := by rw [bne, h6]; rfl
        have h7 : x.f = false := by rw [h5] at h2; simpa using h2
        simp (disch := first | (simp only [DS, reduceCtorEq]; done) | omega) only [WS, St.guard, St.put, evalO, reduceCtorEq, reduceIte, Nat.reduceAdd, Nat.reduceEqDiff, Bool.not_true, Bool.not_false, ld0, ld1, ld2, vBin_neq_u32, h1', ek, h7, eg, h5, h6', fin_tmp3]
        exact ⟨by simp, stop hT2⟩
      | true =>
      rw [h4] at hT2
      cases h3 : decide (x.e.toNat < least.toNat) with
      | true =>
        rw [h3] at hT2
        by_cases hk0 : k = 0
        · have h5 : decide (k = 0) = true := decide_eq_true hk0
          have h7 : x.f = true := by rw [h5] at h2; simpa using h2
          simp (disch := first | (simp only [DS, reduceCtorEq]; done) | omega) only [WS, St.guard, St.put, evalO, reduceCtorEq, reduceIte, Nat.reduceAdd, Nat.reduceEqDiff, Bool.not_true, Bool.not_false, ld0, ld1, ld2, vBin_neq_u32, h1', ek, h7, eg, h5, vBin_lss_u32, h3, fin_tmp3]
          exact ⟨by simp, stop hT2⟩
        · have h5 : decide (k = 0) = false := decide_eq_false hk0
          have h7 : x.f = false := by rw [h5] at h2; simpa using h2
          have h6 : (x.e != ep) = false := by rw [h5, Bool.false_or] at h4; rw [bne, h4]; rfl
          simp (disch := first | (simp only [DS, reduceCtorEq]; done) | omega) only [WS, St.guard, St.put, evalO, reduceCtorEq, reduceIte, Nat.reduceAdd, Nat.reduceEqDiff, Bool.not_true, Bool.not_false, ld0, ld1, ld2, vBin_neq_u32, h1', ek, h7, eg, h5, h6, vBin_lss_u32, h3, fin_tmp3]
          exact ⟨by simp, stop hT2⟩
      | false =>
      rw [h3] at hT2
      simp only [Bool.not_false, Bool.and_true, if_true] at hT2
      have va : ∀ {G b1 b3 b4}, View ⟨G, [b1, B1, b3, b4]⟩ a 1 x.d.length (x.d.map byteAV) := hat.view rfl
      have ap : ∀ G b3, prim ⟨G, [accB b, B1, b3, none]⟩ (.append 3 false 1 1) [.own (.l 0) b.length 0 b.length 1 none, a] = some (.own (.l 0) (b ++ x.d).length 0 (b ++ x.d).length 1 none, ⟨G, [accB (b ++ x.d), B1, b3, none]⟩) := fun G b3 => by
        have := append_own (G := G) (L := [accB b, B1, b3, none]) (site := 3) (j := 0) (esz := 1) (bytes := 1) (len := b.length) (k := x.d.length) (x := a) (cells := b.map byteAV) (new := x.d.map byteAV) (v := b.isEmpty) rfl (by simp) va bytes_lfs (by omega) (by omega)
        rw [Nat.mul_one, Nat.mul_one, ← List.map_append] at this
        have e : (b ++ x.d).isEmpty = false := by
          cases hd : x.d with
          | nil => rw [hd] at hxl; simp at hxl
          | cons c d => cases b <;> rfl
        unfold accB
        rw [e, List.length_append]
        exact this
      have hlen : (b ++ x.d).length ≤ 46 * (k + 1) := by rw [List.length_append]; omega
      have hk1 : (k : Int) + 1 = ((k + 1 : Nat) : Int) := by omega
      by_cases hk0 : k = 0
      case' pos =>
        have h5 : decide (k = 0) = true := decide_eq_true hk0
        have h7 : x.f = true := by rw [h5] at h2; simpa using h2
        simp (disch := first | (simp only [DS, reduceCtorEq]; done) | omega) only [WS, St.guard, St.put, evalO, reduceCtorEq, reduceIte, Nat.reduceAdd, Nat.reduceEqDiff, Bool.not_true, Bool.not_false, ld0, ld1, ld2, ld4, vBin_neq_u32, h1', ek, h7, eg, h5, vBin_lss_u32, h3, ap, ld3]
      case' neg =>
        have h5 : decide (k = 0) = false := decide_eq_false hk0
        have h7 : x.f = false := by rw [h5] at h2; simpa using h2
        have h6 : (x.e != ep) = false := by rw [h5, Bool.false_or] at h4; rw [bne, h4]; rfl
        simp (disch := first | (simp only [DS, reduceCtorEq]; done) | omega) only [WS, St.guard, St.put, evalO, reduceCtorEq, reduceIte, Nat.reduceAdd, Nat.reduceEqDiff, Bool.not_true, Bool.not_false, ld0, ld1, ld2, ld4, vBin_neq_u32, h1', ek, h7, eg, h5, h6, vBin_lss_u32, h3, ap, ld3]
      all_goals
        cases hl : x.l with
        | false =>
          rw [hl] at hT2
          simp (disch := first | (simp only [DS, reduceCtorEq]; done) | omega) only [WS, St.guard, St.put, evalO, reduceCtorEq, reduceIte, Nat.reduceAdd, Nat.reduceEqDiff, Bool.false_eq_true, vBin_add_i64, hk1]
          exact ⟨_, f, clear_fre (by simp only [clear_nil, List.foldl_cons, List.foldl_nil, Option.some.injEq, LS, reduceCtorEq, reduceIte, Nat.reduceAdd] <;> rfl) (by rfl) (by rfl) (by rfl), by omega, k + 1, b ++ x.d, x.e, rfl, hT2, by omega, by omega, hlen⟩
        | true =>
          rw [hl] at hT2
          have hT3 : some (b ++ x.d, k + 1, x.e) = R := hT2
          subst hT3
          simp (disch := first | (simp only [DS, reduceCtorEq]; done) | omega) only [WS, St.guard, St.put, evalO, reduceCtorEq, reduceIte, Nat.reduceAdd, Nat.reduceEqDiff, vBin_add_i64, hk1, fin_tmp3]
          have eb : accB (b ++ x.d) = some (dBlk ((b ++ x.d).map byteAV) true false) := by
            have e : (b ++ x.d).isEmpty = false := by
              cases hd : x.d with
              | nil => rw [hd] at hxl; simp at hxl
              | cons c d => cases b <;> rfl
            unfold accB; rw [e]
          rw [eb]
          exact ⟨by simp, _, _, leave_own (b := dBlk ((b ++ x.d).map byteAV) true false) (fun r => .tup [r, .v (.int .i64 ((k + 1 : Nat) : Int)), .v (u32 x.e)]) (fun _ _ => rfl) (fun r => by simp [AV.labs, AV.labs.labss]) (by exact rfl) rfl, _, _, rfl, rfl, rfl, rfl⟩
    · have hlt : ¬ ((J.used + k : Nat) : Int) < (J.n : Int) := by omega
      have hk0 : rcNext D J least k ep = false := by unfold rcNext lvOK; rw [if_neg hin]; rfl
      rw [hk0] at hT'
      simp (disch := first | (simp only [DS, reduceCtorEq]; done) | omega) only [f___ref06_Journal__record_L0, f___ref06_Journal__record_H0, WS, St.guard, St.put, evalO, reduceCtorEq, reduceIte, Nat.reduceAdd, Nat.reduceEqDiff, vBin_add_i64, euk, l2, hlt, decide_false, fin_tmp3]
      refine ⟨by simp, stop hT'⟩)
  exact ⟨a', Bs, he, hr⟩
end Go.AM
namespace Go.AM
variable {prog : String → Option IFn}
variable {G L : List (Option Blk)} {P : DPos} {D : DskD} {n q p : Nat} {B : Option Blk} {cs : List AV} {J : JD}
def JD.rnote (J : JD) (b : Txt) (k : Nat) (e : BitVec 32) : JD := { J with fi := if J.recs = [] then e else J.fi, recs := J.recs ++ [b], used := J.used + k }
def JD.rc (J : JD) (D : DskD) (least : BitVec 32) : Option (Txt × Nat × BitVec 32) := rcF D J least (J.n - J.used + 1) 0 [] 0#32
def roF (D : DskD) : Nat → JD → BitVec 32 → JD
  | 0, J, _ => J
  | f + 1, J, least => match J.rc D least with
    | some (b, k, e) => roF D f (J.rnote b k e) e
    | none => J
def openR (D : DskD) (frm nn : Nat) (ep : BitVec 32) : JD := roF D (nn + 1) (newJ frm nn ep) 1#32
structure RcInv (J : JD) (R : Option (Txt × Nat × BitVec 32)) : Prop where
  some : ∀ b k e, R = some (b, k, e) → 1 ≤ k ∧ J.used + k ≤ J.n ∧ b ≠ [] ∧ b.length ≤ 46 * k
theorem rcF_inv {least : BitVec 32} : ∀ f k b ep, J.used + k ≤ J.n → b.length ≤ 46 * k → RcInv J (rcF D J least f k b ep)
  | 0, k, b, ep, hk, hbl => ⟨fun _ _ _ h => by cases h⟩
  | f + 1, k, b, ep, hk, hbl => by
    unfold rcF
    split
    · rename_i hN
      unfold rcNext at hN
      simp only [Bool.and_eq_true] at hN
      obtain ⟨hi, hx⟩ := lvOK_right hN.1
      have hxl := right_len hx
      split
      · refine ⟨fun c m e h => ?_⟩
        cases h
        refine ⟨by omega, by omega, fun e => ?_, ?_⟩
        · have := congrArg List.length e; simp only [List.length_append, List.length_nil] at this; omega
        · rw [List.length_append]; omega
      · exact rcF_inv f (k + 1) _ _ (by omega) (by rw [List.length_append]; omega)
    · exact ⟨fun _ _ _ h => by cases h⟩
theorem rc_inv {least : BitVec 32} (h : J.used ≤ J.n) : RcInv J (J.rc D least) := rcF_inv _ _ _ _ (by omega) (by simp)
def yL (P : DPos) (J : JD) : List AV := yC (fun k => if k = 0 then .l 0 else .o (k - 1)) (P.p + 1) 0 J
def ynL (P : DPos) (J : JD) (B : Option Blk) : List (Option Blk) := [recB J.recs, some (sBlk (yL P J) false), B, none, none]
theorem yC_labs' {f : Nat → Lab} {pd q : Nat} : AV.labs.labss (yC f pd q J) = [f pd, f q] := rfl
theorem yn_ok (h : P.Ok G.length n) : OOk (G ++ [none, none]).length P G.length (G.length + 1) n := jn_ok h
theorem yn_into (h : P.Ok G.length n) : (⟨dset G P D, ynL P J none⟩ : Hp).into = dj (G ++ [none, none]) P G.length (G.length + 1) D (recB J.recs) (yC .o P.p G.length J) ++ [none, none, none] := by
  rw [← jn_set h]
  unfold Hp.into
  rw [dset_len]
  simp [ynL, List.append_assoc]
  exact ⟨rfl, rfl⟩
theorem yn_good (h : P.Ok G.length n) : Good ⟨dset G P D, ynL P J none⟩ := by
  have := h.hp
  refine ⟨dBlk_good, sBlk_good ?_, trivial⟩
  simp [yL, yC_labs', refLt, dset_len]; omega
theorem frz_rowO {G : List (Option Blk)} {b : Txt} {X Y : Option Blk} : prim ⟨G, [X, Y, some (dBlk (b.map byteAV) true false), none, none]⟩ (.buildSlice 3 true 1 1 [.slice none 0 0] [(0, 1)]) [.own (.l 2) b.length 0 b.length 1 none] =
    some (.own (.l 3) 1 0 1 1 (some 1), ⟨G, [X, Y, some { dBlk (b.map byteAV) true false with wr := false }, some (dBlk [roAV b] false false), none]⟩) := by
  rw [px_buildSlice]
  have e : (⟨G, [X, Y, some (dBlk (b.map byteAV) true false), none, none]⟩ : Hp).mayFreeze true [.own (.l 2) b.length 0 b.length 1 none] = some ([roAV b], ⟨G, [X, Y, some { dBlk (b.map byteAV) true false with wr := false }, none, none]⟩) := by
    simp only [Hp.mayFreeze, if_true, Hp.freezes, Hp.freeze, Hp.get, List.getElem?_cons_zero, List.getElem?_cons_succ, Option.join_some]
    rw [if_pos ⟨by simp [dBlk], rfl⟩]
    simp only [Option.bind_some, Option.map_some, Option.some.injEq, Prod.mk.injEq, List.cons.injEq, and_true]
    refine ⟨?_, rfl⟩
    unfold roAV
    rw [List.drop_zero, Nat.mul_one, List.take_of_length_le (by simp [dBlk])]
    rfl
  rw [e]
  rfl
theorem op_record (H : TakeLib prog) (hp : prog "(*haberdash/haberdashref06.Journal).record" = some f___ref06_Journal__record) (h : P.Ok G.length D.b.length) (hf : J.frm + J.n ≤ D.b.length) (hb : D.b.length ≤ 20000) (hu : J.used ≤ J.n) {least : BitVec 32} :
    Ev prog (.op (.call "(*haberdash/haberdashref06.Journal).record" [2]) [.ptr (.l 1) 8 0, .v (.int .i64 (J.used : Nat)), .v (u32 (BitVec.ofNat 32 J.recs.length)), .v (u32 least)] ⟨dset G P D.sw, ynL P J none⟩)
      (.val (recAns (J.rc D least) (.own (.l 2) (match J.rc D least with | some (b, _, _) => b.length | none => 0) 0 (match J.rc D least with | some (b, _, _) => b.length | none => 0) 1 none)) ⟨dset G P D.sw, ynL P J (match J.rc D least with | some (b, _, _) => some (dBlk (b.map byteAV) true false) | none => none)⟩) := by
  obtain ⟨r, Bs, he, hr⟩ := record_spec H hp (B := recB J.recs) (least := least) ((yn_ok h).app (X := [none, none, none])) hf hb hu
  have hg := yn_good (J := J) (D := D.sw) h
  rw [dj_app (yn_ok h), ← yn_into h] at he hr
  have xr : [AV.ptr (.l 1) 8 0, .v (.int .i64 (J.used : Nat)), .v (u32 (BitVec.ofNat 32 J.recs.length)), .v (u32 least)].map (AV.ren (up (⟨dset G P D.sw, ynL P J none⟩ : Hp).G.length)) = [.ptr (.o (G.length + 1)) 8 0, .v (.int .i64 (J.used : Nat)), .v (u32 (BitVec.ofNat 32 J.recs.length)), .v (u32 least)] := by
    show [AV.ptr (.o ((dset G P D.sw).length + 1)) 8 0, _, _, _] = _
    rw [dset_len]; rfl
  have hrc : rcF D J least (J.n - J.used + 1) 0 [] 0#32 = J.rc D least := rfl
  rw [hrc] at he hr
  generalize J.rc D least = R at *
  cases R with
  | none =>
    have hB : Bs = [] := hr
    subst hB
    rw [List.append_nil] at he
    exact op_noneL (by rw [xr]; exact he) rfl (by decide) (by intro k hk; simp at hk; subst hk; rfl) hg
  | some t =>
    obtain ⟨b, k, e⟩ := t
    obtain ⟨rfl, rfl⟩ := hr
    refine op_news (Bs := [some (dBlk (b.map byteAV) true false)]) (by rw [xr]; exact he) (fun B hB c hc => ?_) rfl (by simp) rfl hg ?_
    · subst hc; simp at hB; subst hB; rfl
    · have d0 : down (dset G P D.sw).length (ynL P J none).length [2] (.o (⟨dset G P D.sw, ynL P J none⟩ : Hp).into.length) = some (.l 2) := down_into0 (h := ⟨dset G P D.sw, ynL P J none⟩) (sites := [2])
      simp only [recAns, AV.ren, AV.ren.rens, d0]
set_option maxHeartbeats 1000000 in
theorem openR_ok (H : TakeLib prog) (hbl : prog "haberdash/haberdashref06.Blank" = some f_ref06_Blank) (hop : prog "haberdash/haberdashref06.Open" = some f_ref06_Open) (hp : prog "(*haberdash/haberdashref06.Journal).record" = some f___ref06_Journal__record)
    {frm nn : Nat} {ep : BitVec 32} (h : P.Ok G.length D.b.length) (hl : D.b.length ≤ 20000) (hE : newE D frm nn ep = 0) :
    Ev prog (.call "haberdash/haberdashref06.Open" [.ptr (.o P.p) 5 0, .v (.int .i64 (frm : Nat)), .v (.int .i64 (nn : Nat)), .v (u32 ep)] (dset G P D.sw)) (.ret (.tup [.ptr (.o (G.length + 1)) 8 0, .v (.int .i64 0)]) (dset G P D.sw ++ newYO G.length P.p (openR D frm nn ep))) := by
  refine call_of_fin hop ?_
  simp only [f_ref06_Open_B, enter, List.length_cons, List.length_nil, List.replicate, Nat.reduceAdd, Nat.reduceSub, List.cons_append, List.nil_append]
  have hroom : room = 140737488355328 := rfl
  have hpp := h.hp
  have hfn : frm + nn ≤ D.b.length := by
    unfold newE at hE
    by_cases c : (frm : Int) < 0 ∨ (nn : Int) < 1 ∨ (nn : Int) > (D.b.length : Int) - frm ∨ ep = 0#32
    · rw [if_pos c] at hE; omega
    · omega
  obtain ⟨T, hT⟩ : ∃ T, roF D (nn + 1) (newJ frm nn ep) 1#32 = T := ⟨_, rfl⟩
  have hO : openR D frm nn ep = T := hT
  rw [hO]
  have d5 : Dat [(none : Option Blk), none, none, none, none] := by intro B hB b e; subst e; simp at hB
  have g5 : Good ⟨dset G P D.sw, [none, none, none, none, none]⟩ := goodX d5
  have il : (⟨dset G P D.sw, [none, none, none, none, none]⟩ : Hp).into = dset (G ++ [none, none, none, none, none]) P D.sw := by rw [into_dat d5, dset_app h]
  have hil : (⟨dset G P D.sw, [none, none, none, none, none]⟩ : Hp).into.length = G.length + 5 := by rw [il, dset_len, List.length_append]; rfl
  have hnew : Ev prog (.op (.call "haberdash/haberdashref06.Blank" [0, 1]) [.ptr (.o P.p) 5 0, .v (.int .i64 (frm : Nat)), .v (.int .i64 (nn : Nat)), .v (u32 ep)] ⟨dset G P D.sw, [none, none, none, none, none]⟩) (.val (.tup [.ptr (.l 1) 8 0, .v (.int .i64 0)]) ⟨dset G P D.sw, ynL P (newJ frm nn ep) none⟩) := by
    refine op_obj (h := ⟨dset G P D.sw, [none, none, none, none, none]⟩) (Bq := dBlk (recE.row []) true true) (cs := yC .o P.p (G.length + 5) (newJ frm nn ep)) (cs2 := yL P (newJ frm nn ep)) (fun a => .tup [a, .v (.int .i64 0)]) (fun ρ a => rfl) ?_ (by omega) rfl rfl g5 rfl ?_
    · rw [hil, il]
      have := blank_ok hbl (G := G ++ [none, none, none, none, none]) (P := P) (D := D) (frm := frm) (nn := nn) (ep := ep) h.app hl hE
      have e2 : (G ++ [none, none, none, none, none]).length = G.length + 5 := by simp
      rw [e2] at this
      exact this
    · have d0 : down (dset G P D.sw).length 5 [0, 1] (.o P.p) = some (.o P.p) := by simp only [down, dset_len]; rw [if_pos (by omega)]
      have d1 : down (dset G P D.sw).length 5 [0, 1] (.o (G.length + 5)) = some (.l 0) := by simp only [down, dset_len]; rw [if_neg (by omega), if_neg (by omega)]; simp
      show AV.ren.rens (down (dset G P D.sw).length 5 [0, 1]) _ = _
      simp only [yC, AV.ren.rens, AV.ren, d0, d1]
      rfl
  simp (disch := first | (simp only [DS, reduceCtorEq]; done) | omega) only [WS, St.guard, St.put, evalO, reduceCtorEq, reduceIte, Nat.reduceAdd, Nat.reduceEqDiff]
  refine WP_of hnew ?_
  simp (disch := first | (simp only [DS, reduceCtorEq]; done) | omega) only [WS, St.guard, St.put, evalO, reduceCtorEq, reduceIte, Nat.reduceAdd, Nat.reduceEqDiff, Int.reduceBNe]
  refine WC_loop (Inv := fun m st => ∃ J least, st = ⟨f_ref06_Open_H0 (.ptr (.l 1) 8 0) (.v (u32 least)), ⟨dset G P D.sw, ynL P J none⟩⟩ ∧ roF D m J least = T ∧ J.n = nn ∧ J.frm = frm ∧ J.used ≤ nn ∧ J.recs.length ≤ J.used ∧ nn + 1 ≤ m + J.used)
    (nn + 1) ⟨_, ?_, newJ frm nn ep, 1#32, rfl, hT, rfl, rfl, Nat.zero_le _, Nat.zero_le _, Nat.le_add_right _ _⟩ ?_
  · exact clear_fre (by simp only [clear_nil, List.foldl_cons, List.foldl_nil, Option.some.injEq, LS, reduceCtorEq, reduceIte, Nat.reduceAdd] <;> rfl) (by rfl) (by rfl) (by rfl)
  rintro m st ⟨J, least, rfl, hTm, hn, hfr, hu, hrl, hm⟩
  obtain ⟨f, rfl⟩ : ∃ f, m = f + 1 := ⟨m - 1, by omega⟩
  have l4 : ∀ G X B b3 b4 (J : JD), prim ⟨G, [X, some (sBlk (yL P J) false), B, b3, b4]⟩ (.load 1 false) [.ptr (.l 1) 8 4] = some (.own (.l 0) J.recs.length 0 J.recs.length 1 none, ⟨G, [X, some (sBlk (yL P J) false), B, b3, b4]⟩) := fun G X B b3 b4 J => rfl
  have l6 : ∀ G X B b3 b4 (J : JD), prim ⟨G, [X, some (sBlk (yL P J) false), B, b3, b4]⟩ (.load 1 false) [.ptr (.l 1) 8 6] = some (.v (.int .i64 (J.used : Nat)), ⟨G, [X, some (sBlk (yL P J) false), B, b3, b4]⟩) := fun G X B b3 b4 J => rfl
  have ls : ∀ (m : Nat) (h : Hp), prim h .lenSlice [.own (.l 0) m 0 m 1 none] = some (.v (.int .i64 (m : Nat)), h) := fun m h => rfl
  have hev := op_record H hp (J := J) (least := least) h (by omega) hl (by omega)
  have I := rc_inv (D := D) (J := J) (least := least) (by omega)
  have hT' : (match J.rc D least with | some (b, k, e) => roF D f (J.rnote b k e) e | none => J) = T := hTm
  simp (disch := first | (simp only [DS, reduceCtorEq]; done) | omega) only [f_ref06_Open_L0, f_ref06_Open_H0, WS, St.guard, St.put, evalO, reduceCtorEq, reduceIte, Nat.reduceAdd, Nat.reduceEqDiff, ynL, l4, l6, ls, wrap_num, cv_num]
  have g1 : ∀ {D : DskD} {B : Option Blk}, (∀ b, B = some b → b.labs = []) → Good ⟨dset G P D, [recB J.recs, some (sBlk (yL P J) false), B, none, none]⟩ := fun {D B} hB => by
    refine ⟨dBlk_good, sBlk_good ?_, goodL_opt (fun b hb => by rw [hB b hb]; rfl) trivial⟩
    simp [yL, yC_labs', refLt, dset_len]; omega
  cases hR : J.rc D least with
  | none =>
    rw [hR] at hev hT'
    have hT2 : J = T := hT'
    subst hT2
    refine WDP_of (by exact hev) (by exact g1 (by intro b hb; cases hb)) (by exact g1 (by intro b hb; cases hb)) rfl rfl ?_
    simp (disch := first | (simp only [DS, reduceCtorEq]; done) | omega) only [WS, St.guard, St.put, evalO, reduceCtorEq, reduceIte, Nat.reduceAdd, Nat.reduceEqDiff, recAns, ynL, Int.reduceBEq, fin_tmp2]
    refine ⟨by simp, ?_⟩
    have hlen := dset_len (G := G) (P := P) (D := D.sw)
    have := leave_obj (G := dset G P D.sw) (A := dBlk (recE.row J.recs) true J.recs.isEmpty) rfl (cs := yL P J) (m := P.p) (cs' := yC .o P.p (dset G P D.sw).length J) (X := [none, none, none])
      (fun a => .tup [a, .v (.int .i64 0)]) (fun ρ a => rfl) (fun a => by simp [AV.labs, AV.labs.labss]) (fun ℓ hℓ => by
        simp only [yL, yC_labs'] at hℓ
        simp at hℓ
        rcases hℓ with rfl | rfl
        · exact .inr ⟨_, rfl, by omega⟩
        · exact .inl rfl) rfl (by omega) rfl rfl
    refine this.trans ?_
    rw [hlen]
    rfl
  | some t =>
    obtain ⟨b, k, e⟩ := t
    rw [hR] at hev hT'
    obtain ⟨i1, i2, i3, i4⟩ := I.some b k e hR
    have hT2 : roF D f (J.rnote b k e) e = T := hT'
    have hrb : (J.rnote b k e).recs.length = J.recs.length + 1 := by simp [JD.rnote]
    have hev2 : Ev prog (.op (.call "(*haberdash/haberdashref06.Journal).record" [2]) [.ptr (.l 1) 8 0, .v (.int .i64 (J.used : Nat)), .v (u32 (BitVec.ofNat 32 J.recs.length)), .v (u32 least)] ⟨dset G P D.sw, [recB J.recs, some (sBlk (yL P J) false), none, none, none]⟩)
      (.val (.tup [.own (.l 2) b.length 0 b.length 1 none, .v (.int .i64 (k : Nat)), .v (u32 e)]) ⟨dset G P D.sw, [recB J.recs, some (sBlk (yL P J) false), some (dBlk (b.map byteAV) true false), none, none]⟩) := hev
    refine WDP_of hev2 (by exact g1 (by intro b hb; cases hb)) (by exact g1 (by intro c hc; cases hc; rfl)) rfl rfl ?_
    have hk0 : ((k : Int) == 0) = false := by rw [beq_eq_false_iff_ne]; omega
    have s5 : ∀ (G : List (Option Blk)) X B b3 b4 (J : JD) (e : BitVec 32), prim ⟨G, [X, some (sBlk (yL P J) false), B, b3, b4]⟩ (.store 1 false) [.ptr (.l 1) 8 5, .v (u32 e)] = some (.v undef, ⟨G, [X, some (sBlk (yL P { J with fi := e }) false), B, b3, b4]⟩) := fun G X B b3 b4 J e =>
      store_f (j := 1) (n := 8) (off := 5) (cells := yL P J) (d := false) rfl rfl rfl (by omega)
    have s4 : ∀ (G : List (Option Blk)) X B b3 b4 (J : JD) (b : Txt), prim ⟨G, [X, some (sBlk (yL P J) false), B, b3, b4]⟩ (.store 1 false) [.ptr (.l 1) 8 4, .own (.l 0) (J.recs.length + 1) 0 (J.recs.length + 1) 1 none] = some (.v undef, ⟨G, [X, some (sBlk (yL P { J with recs := J.recs ++ [b] }) false), B, b3, b4]⟩) := fun G X B b3 b4 J b => by
      have := store_f (G := G) (L := [X, some (sBlk (yL P J) false), B, b3, b4]) (j := 1) (n := 8) (off := 4) (cells := yL P J) (d := false) (x := .own (.l 0) (J.recs.length + 1) 0 (J.recs.length + 1) 1 none) rfl rfl rfl (by omega)
      rw [this]
      have e : (yL P J).set 4 (.own (.l 0) (J.recs.length + 1) 0 (J.recs.length + 1) 1 none) = yL P { J with recs := J.recs ++ [b] } := by
        have : (J.recs ++ [b]).length = J.recs.length + 1 := by simp
        simp only [yL, yC, this]; rfl
      rw [e]; rfl
    have s6 : ∀ (G : List (Option Blk)) X B b3 b4 (J : JD) (u : Nat), prim ⟨G, [X, some (sBlk (yL P J) false), B, b3, b4]⟩ (.store 1 false) [.ptr (.l 1) 8 6, .v (.int .i64 (u : Nat))] = some (.v undef, ⟨G, [X, some (sBlk (yL P { J with used := u }) false), B, b3, b4]⟩) := fun G X B b3 b4 J u =>
      store_f (j := 1) (n := 8) (off := 6) (cells := yL P J) (d := false) rfl rfl rfl (by omega)
    have ap : ∀ (G : List (Option Blk)) X B, prim ⟨G, [recB J.recs, X, B, some (dBlk [roAV b] false false), none]⟩ (.append 4 true 1 24) [.own (.l 0) J.recs.length 0 J.recs.length 1 none, .own (.l 3) 1 0 1 1 (some 1)] = some (.own (.l 0) (J.recs.length + 1) 0 (J.recs.length + 1) 1 none, ⟨G, [recB (J.recs ++ [b]), X, B, some (dBlk [roAV b] false false), none]⟩) := fun G X B =>
      append_recL (j := 0) (m := 3) rfl rfl (by omega)
    have huk : (J.used : Int) + (k : Int) = ((J.used + k : Nat) : Int) := by omega
    simp (disch := first | (simp only [DS, reduceCtorEq]; done) | omega) only [WS, St.guard, St.put, evalO, reduceCtorEq, reduceIte, Nat.reduceAdd, Nat.reduceEqDiff, recAns, ynL, hk0, l4, ls, recs_nil]
    obtain ⟨J1, hJ1⟩ : ∃ J1 : JD, J1 = { J with fi := if J.recs = [] then e else J.fi } := ⟨_, rfl⟩
    have hJr : J1.recs = J.recs := by rw [hJ1]
    have hJu : J1.used = J.used := by rw [hJ1]
    have hJn : J.rnote b k e = { J1 with recs := J1.recs ++ [b], used := J1.used + k } := by rw [hJ1]; rfl
    have huk : (J1.used : Int) + (k : Int) = ((J1.used + k : Nat) : Int) := by omega
    rw [← hJr] at ap
    by_cases hr0 : J.recs = []
    case' pos =>
      have hd : decide (J.recs = []) = true := decide_eq_true hr0
      have hJ2 : J1 = { J with fi := e } := by rw [hJ1, if_pos hr0]
      simp (disch := first | (simp only [DS, reduceCtorEq]; done) | omega) only [WS, St.guard, St.put, evalO, reduceCtorEq, reduceIte, Nat.reduceAdd, Nat.reduceEqDiff, hd, s5]
      simp only [← hJ2]
      rw [← hJr]
    case' neg =>
      have hd : decide (J.recs = []) = false := decide_eq_false hr0
      have hJ2 : J1 = J := by rw [hJ1, if_neg hr0]
      simp (disch := first | (simp only [DS, reduceCtorEq]; done) | omega) only [WS, St.guard, St.put, evalO, reduceCtorEq, reduceIte, Nat.reduceAdd, Nat.reduceEqDiff, hd]
      rw [← hJ2]
    all_goals
      simp (disch := first | (simp only [DS, reduceCtorEq]; done) | omega) only [WS, St.guard, St.put, evalO, reduceCtorEq, reduceIte, Nat.reduceAdd, Nat.reduceEqDiff, l4]
      refine (WR_eq frz_rowO).2 ?_
      simp (disch := first | (simp only [DS, reduceCtorEq]; done) | omega) only [WS, St.guard, St.put, evalO, reduceCtorEq, reduceIte, Nat.reduceAdd, Nat.reduceEqDiff]
      refine (WR_eq (ap _ _ _)).2 ?_
      simp (disch := first | (simp only [DS, reduceCtorEq]; done) | omega) only [WS, St.guard, St.put, evalO, reduceCtorEq, reduceIte, Nat.reduceAdd, Nat.reduceEqDiff, s4 _ _ _ _ _ _ b, l6, vBin_add_i64, huk, s6]
      refine ⟨_, f, clear_fre (by simp only [clear_nil, List.foldl_cons, List.foldl_nil, Option.some.injEq, LS, reduceCtorEq, reduceIte, Nat.reduceAdd] <;> rfl) (by rfl) (by rfl) (by rfl), by omega, J.rnote b k e, e, by rw [hJn]; rfl, hT2, hn, hfr, ?_, ?_, ?_⟩
      · show J.used + k ≤ nn; omega
      · rw [hrb]; show J.recs.length + 1 ≤ J.used + k; omega
      · show nn + 1 ≤ f + (J.used + k); omega
end Go.AM
namespace Go.AM
variable {D : DskD} {J : JD} {least : BitVec 32}
def Least (least la : BitVec 32) : Prop := least.toNat = max 1 la.toNat
theorem next_same (hl : Least least J.la) (hr : J.recs.length < 2 ^ 32) {k : Nat} {e1 e2 : BitVec 32} (he : k ≠ 0 → e1 = e2) : rcNext D J least k e1 = lvNext D J k e2 := by
  unfold rcNext lvNext
  cases hok : lvOK D J (J.used + k) with
  | false => rfl
  | true =>
    obtain ⟨hi, hx⟩ := lvOK_right hok
    generalize lvX D J (J.used + k) = x at *
    have h1 : (x.n == BitVec.ofNat 32 J.recs.length) = (x.n.toNat == J.recs.length) := by
      rw [Bool.eq_iff_iff, beq_iff_eq, beq_iff_eq]
      constructor
      · intro h; rw [h, BitVec.toNat_ofNat, Nat.mod_eq_of_lt hr]
      · intro h; rw [← h, BitVec.ofNat_toNat, BitVec.setWidth_eq]
    have h0 : x.e.toNat ≠ 0 := fun h => by
      have : x.e = 0#32 := BitVec.eq_of_toNat_eq (by rw [h]; rfl)
      unfold LeafD.right at hx
      rw [this] at hx
      simp at hx
    have h2 : decide (x.e.toNat < least.toNat) = decide (x.e.toNat < J.la.toNat) := by
      unfold Least at hl
      rw [decide_eq_decide, hl]; omega
    have h3 : (decide (k = 0) || x.e == e1) = (decide (k = 0) || x.e == e2) := by
      by_cases hk : k = 0
      · rw [decide_eq_true hk]; rfl
      · rw [he hk]
    rw [h1, h2, h3]
    cases (x.n.toNat == J.recs.length) <;> cases (x.f == decide (k = 0)) <;> cases (decide (k = 0) || x.e == e2) <;> cases decide (x.e.toNat < J.la.toNat) <;> rfl
theorem rcF_tkF (hl : Least least J.la) (hr : J.recs.length < 2 ^ 32) : ∀ f k b e1 e2, (k ≠ 0 → e1 = e2) →
    (∀ c m e, rcF D J least f k b e1 = some (c, m, e) → tkF D J f k b e2 = (true, ({ J with ep := e } : JD).note c m)) ∧ (rcF D J least f k b e1 = none → ∃ e, tkF D J f k b e2 = (false, { J with ep := e }))
  | 0, k, b, e1, e2, he => ⟨fun _ _ _ h => (by cases h), fun _ => ⟨_, rfl⟩⟩
  | f + 1, k, b, e1, e2, he => by
    have hn := next_same (D := D) hl hr he
    unfold rcF tkF
    rw [hn]
    cases h : lvNext D J k e2 with
    | false => exact ⟨fun _ _ _ h => (by cases h), fun _ => ⟨_, rfl⟩⟩
    | true =>
      simp only [if_true]
      cases hL : (lvX D J (J.used + k)).l with
      | true =>
        simp only [if_true]
        exact ⟨fun c m e h => by cases h; rfl, fun h => (by cases h)⟩
      | false =>
        simp only [Bool.false_eq_true, if_false]
        exact rcF_tkF hl hr f (k + 1) _ _ _ (fun _ => rfl)
theorem rcF_cong {J J' : JD} (h1 : J.frm = J'.frm) (h2 : J.n = J'.n) (h3 : J.used = J'.used) (h4 : J.recs = J'.recs) : ∀ f k b e, rcF D J least f k b e = rcF D J' least f k b e
  | 0, _, _, _ => rfl
  | f + 1, k, b, e => by
    have hx : ∀ i, lvX D J i = lvX D J' i := fun i => by unfold lvX; rw [h1, h2]
    have ho : ∀ i, lvOK D J i = lvOK D J' i := fun i => by unfold lvOK; rw [h1, h2]
    have hn : rcNext D J least k e = rcNext D J' least k e := by unfold rcNext; rw [hx, ho, h3, h4]
    unfold rcF
    rw [hn, hx, h3, rcF_cong h1 h2 h3 h4 f]
theorem rcF_ep : ∀ f k b e0 c m e, rcF D J least f k b e0 = some (c, m, e) → e.toNat ≠ 0
  | 0, k, b, e0, c, m, e, h => by cases h
  | f + 1, k, b, e0, c, m, e, h => by
    unfold rcF at h
    split at h
    · rename_i hN
      unfold rcNext at hN
      simp only [Bool.and_eq_true] at hN
      have hx := (lvOK_right hN.1).2
      split at h
      · cases h
        intro h0
        have : (lvX D J (J.used + k)).e = 0#32 := BitVec.eq_of_toNat_eq (by rw [h0]; rfl)
        unfold LeafD.right at hx
        rw [this] at hx
        simp at hx
      · exact rcF_ep f _ _ _ c m e h
    · cases h
theorem roF_tksF {x y : BitVec 32} : ∀ f (J : JD) (least : BitVec 32), Least least J.la → J.recs.length + f < 2 ^ 32 → roF D f { J with la := x, ep := y } least = { tksF D f J with la := x, ep := y }
  | 0, J, least, _, _ => rfl
  | f + 1, J, least, hl, hr => by
    have hc : ({ J with la := x, ep := y } : JD).rc D least = J.rc D least := rcF_cong (J := { J with la := x, ep := y }) (J' := J) rfl rfl rfl rfl _ _ _ _
    have hS := rcF_tkF (D := D) (J := J) hl (by omega) (J.n - J.used + 1) 0 [] 0#32 J.ep (fun h => absurd rfl h)
    have hrc : rcF D J least (J.n - J.used + 1) 0 [] 0#32 = J.rc D least := rfl
    have htk : tkF D J (J.n - J.used + 1) 0 [] J.ep = J.take D := rfl
    rw [hrc, htk] at hS
    have e1 : roF D (f + 1) { J with la := x, ep := y } least = (match ({ J with la := x, ep := y } : JD).rc D least with | some (b, k, e) => roF D f (({ J with la := x, ep := y } : JD).rnote b k e) e | none => { J with la := x, ep := y }) := rfl
    have e2 : tksF D (f + 1) J = if (J.take D).1 then tksF D f (J.take D).2 else (J.take D).2 := rfl
    rw [e1, e2, hc]
    cases hR : J.rc D least with
    | none =>
      obtain ⟨e, he⟩ := hS.2 hR
      rw [he]; rfl
    | some t =>
      obtain ⟨b, k, e⟩ := t
      rw [hS.1 b k e hR]
      have hle : Least e e := by
        unfold Least
        have hne : e.toNat ≠ 0 := rcF_ep _ _ _ _ _ _ _ (hrc.trans hR)
        omega
      exact roF_tksF f (({ J with ep := e } : JD).note b k) e hle (by show (J.recs ++ [b]).length + f < 2 ^ 32; rw [List.length_append]; simp; omega)
theorem openR_openJ {frm nn : Nat} {ep : BitVec 32} (hn : nn ≤ 20000) : openR D frm nn ep = { openJ D frm nn ep with la := 0#32 } :=
  roF_tksF (D := D) (x := 0#32) (y := ep) (nn + 1) (newJ frm nn ep) 1#32 (by show (1#32 : BitVec 32).toNat = max 1 (0#32 : BitVec 32).toNat; decide) (by show 0 + (nn + 1) < 2 ^ 32; omega)
end Go.AM
namespace Go.AM
variable {prog : String → Option IFn}
variable {G L : List (Option Blk)} {P : DPos} {D : DskD} {n q p : Nat} {B : Option Blk} {cs : List AV} {J : JD}
theorem RNeed_spec (hf : prog "haberdash/haberdashref06.Need" = some f_ref06_Need) {G} {k : Nat} (hk : k < 2 ^ 62) : Ev prog (.call "haberdash/haberdashref06.Need" [.v (.int .i64 (k : Nat))] G) (.ret (.v (.int .i64 (needN k : Nat))) G) := by
  refine call_of_fin hf ?_
  simp only [f_ref06_Need_B, enter, List.length_cons, List.length_nil, List.replicate, Nat.reduceAdd, Nat.reduceSub, List.cons_append, List.nil_append]
  by_cases h : k < 1
  · have h1 : (k : Int) < 1 := by omega
    have e : needN k = 0 := by unfold needN; omega
    simp (disch := first | (simp only [DS, reduceCtorEq]; done) | omega) only [WS, St.guard, St.put, evalO, reduceCtorEq, reduceIte, Nat.reduceAdd, Nat.reduceEqDiff, h1, decide_true, fin_tmp, leave_v, e]
    simp
  · have h1 : ¬ (k : Int) < 1 := by omega
    have e1 : (k : Int) - 1 = ((k - 1 : Nat) : Int) := by omega
    have e : (((k - 1) / 46 : Nat) : Int) + 1 = (needN k : Nat) := by unfold needN; omega
    simp (disch := first | (simp only [DS, reduceCtorEq]; done) | omega) only [WS, St.guard, St.put, evalO, reduceCtorEq, reduceIte, Nat.reduceAdd, Nat.reduceEqDiff, h1, decide_false, vBin_sub_i64, e1]
    rw [vBin_quo_i64 (z := 46) 46 rfl (by omega) (by omega)]
    have hb : (k - 1) / 46 ≤ k := by omega
    simp (disch := first | (simp only [DS, reduceCtorEq]; done) | omega) only [WS, St.guard, St.put, evalO, reduceCtorEq, reduceIte, Nat.reduceAdd, Nat.reduceEqDiff, vBin_add_i64, e, fin_tmp, leave_v]
    simp
theorem writeE_in {at' : Int} (h0 : 0 ≤ at') (h1 : at' < D.b.length) : writeE D at' = 0 ∨ writeE D at' = 9 := by
  have : mayE D at' = 0 ∨ mayE D at' = 9 := by
    unfold mayE
    cases D.off
    · rw [if_neg (by simp), if_neg (by omega)]; exact .inl rfl
    · exact .inr rfl
  unfold writeE
  rcases this with h | h
  · rw [if_pos h]; cases D.hits <;> simp
  · rw [if_neg (by omega), h]; exact .inr rfl
theorem layF_err {at' : Nat → Int} {s : Nat → Sec} : ∀ (m i : Nat) {D : DskD}, Siz D n → 0 < n → (∀ j, i ≤ j → j < i + m → 0 ≤ at' j ∧ at' j < n) → (layF D at' s i m).1 = 0 ∨ (layF D at' s i m).1 = 9
  | 0, i, D, z, h0, _ => writeE_in (by omega) (by rw [z.b]; omega)
  | m + 1, i, D, z, h0, hm => by
    have := hm i (by omega) (by omega)
    have hw := writeE_in (D := D) (at' := at' i) this.1 (by rw [z.b]; exact this.2)
    unfold layF
    rcases hw with h | h
    · rw [if_pos h]
      exact layF_err m (i + 1) z.write h0 (fun j h1 h2 => hm j (by omega) (by omega))
    · rw [if_neg (by omega)]; exact .inr h
end Go.AM
namespace Go.AM
variable {prog : String → Option IFn}
variable {G L : List (Option Blk)} {P : DPos} {D : DskD} {n q p : Nat} {B : Option Blk} {cs : List AV} {J : JD}
structure RefJ (prog : String → Option IFn) : Prop extends TakeLib prog, RefDisk prog where
  rneed : prog "haberdash/haberdashref06.Need" = some f_ref06_Need
  radd : prog "(*haberdash/haberdashref06.Journal).Add" = some f___ref06_Journal__Add
set_option maxRecDepth 100000 in
set_option maxHeartbeats 4000000 in
theorem radd_spec (H : RefJ prog) (h : OOk G.length P q p n) (z : Siz D n) (h0n : 0 < n) (hN : n ≤ 20000) {a : AV} {b : Txt} (A : Arg G P q p a b) (he : J.ep ≠ 0#32) (hf : J.frm + J.n ≤ n) (hu : J.used ≤ J.n) (hr : J.recs.length ≤ J.used) (hbl : b.length < 2 ^ 62) :
    Ev prog (.call "(*haberdash/haberdashref06.Journal).Add" [.ptr (.o p) 8 0, a] (dj G P q p D.sw (recB J.recs) (yC .o P.p q J))) (.ret (.v (.int .i64 (J.add D b).1)) (dj G P q p (J.add D b).2.1.sw (recB (J.add D b).2.2.recs) (yC .o P.p q (J.add D b).2.2))) := by
  refine call_of_fin H.radd ?_
  have hroom : room = 140737488355328 := rfl
  simp only [f___ref06_Journal__Add_B, enter, List.length_cons, List.length_nil, List.replicate, Nat.reduceAdd, Nat.reduceSub, List.cons_append, List.nil_append]
  have hd : ∀ {B cs}, P.Ok (oset G q p B cs).length n := by intro B cs; rw [oset_len]; exact h.d
  have l0 : ∀ (E : DskD) B (J : JD) L, prim ⟨dj G P q p E B (yC .o P.p q J), L⟩ (.load 1 false) [.ptr (.o p) 8 0] = some (.ptr (.o P.p) 5 0, ⟨dj G P q p E B (yC .o P.p q J), L⟩) := fun E B J L => dj_ld h (i := 0) rfl rfl
  have l1 : ∀ (E : DskD) B (J : JD) L, prim ⟨dj G P q p E B (yC .o P.p q J), L⟩ (.load 1 false) [.ptr (.o p) 8 1] = some (.v (.int .i64 (J.frm : Nat)), ⟨dj G P q p E B (yC .o P.p q J), L⟩) := fun E B J L => dj_ld h (i := 1) rfl rfl
  have l2 : ∀ (E : DskD) B (J : JD) L, prim ⟨dj G P q p E B (yC .o P.p q J), L⟩ (.load 1 false) [.ptr (.o p) 8 2] = some (.v (.int .i64 (J.n : Nat)), ⟨dj G P q p E B (yC .o P.p q J), L⟩) := fun E B J L => dj_ld h (i := 2) rfl rfl
  have l3 : ∀ (E : DskD) B (J : JD) L, prim ⟨dj G P q p E B (yC .o P.p q J), L⟩ (.load 1 false) [.ptr (.o p) 8 3] = some (.v (u32 J.ep), ⟨dj G P q p E B (yC .o P.p q J), L⟩) := fun E B J L => dj_ld h (i := 3) rfl rfl
  have l4 : ∀ (E : DskD) B (J : JD) L, prim ⟨dj G P q p E B (yC .o P.p q J), L⟩ (.load 1 false) [.ptr (.o p) 8 4] = some (.own (.o q) J.recs.length 0 J.recs.length 1 none, ⟨dj G P q p E B (yC .o P.p q J), L⟩) := fun E B J L => dj_ld h (i := 4) rfl rfl
  have l6 : ∀ (E : DskD) B (J : JD) L, prim ⟨dj G P q p E B (yC .o P.p q J), L⟩ (.load 1 false) [.ptr (.o p) 8 6] = some (.v (.int .i64 (J.used : Nat)), ⟨dj G P q p E B (yC .o P.p q J), L⟩) := fun E B J L => dj_ld h (i := 6) rfl rfl
  have l7 : ∀ (E : DskD) B (J : JD) L, prim ⟨dj G P q p E B (yC .o P.p q J), L⟩ (.load 1 false) [.ptr (.o p) 8 7] = some (.v (.bool J.dead), ⟨dj G P q p E B (yC .o P.p q J), L⟩) := fun E B J L => dj_ld h (i := 7) rfl rfl
  have lo : ∀ (E : DskD) B (J : JD) L, prim ⟨dj G P q p E.sw B (yC .o P.p q J), L⟩ (.load 1 false) [.ptr (.o P.p) 5 3] = some (.v (.bool E.off), ⟨dj G P q p E.sw B (yC .o P.p q J), L⟩) := fun E B J L => by rw [dj_sw h]; exact d_ld3 hd
  have s7 : ∀ (E : DskD) B (J : JD) (x : Bool) L, prim ⟨dj G P q p E B (yC .o P.p q J), L⟩ (.store 1 false) [.ptr (.o p) 8 7, .v (.bool x)] = some (.v undef, ⟨dj G P q p E B (yC .o P.p q { J with dead := x }), L⟩) := fun E B J x L => dj_st h (i := 7) rfl (by omega) rfl
  have ls : ∀ (m : Nat) (h : Hp), prim h .lenSlice [.own (.o q) m 0 m 1 none] = some (.v (.int .i64 (m : Nat)), h) := fun m h => rfl
  have gd : ∀ {D B cs L}, Dat L → Good ⟨dj G P q p D B cs, L⟩ := fun hL => goodX hL
  have d5 : Dat [(none : Option Blk), none, none, none, none] := by intro B hB b e; subst e; simp at hB
  have na : ∀ ks, noRef ks a = true := fun ks => noRef_out (View.out (A.vv (D := D) (B := none) (cs := []) []))
  have np : ∀ ks, noRef ks (.ptr (.o p) 8 0) = true := fun ks => by simp [noRef, AV.labs, labNot]
  simp (disch := first | (simp only [DS, reduceCtorEq]; done) | omega) only [WS, St.guard, St.put, evalO, reduceCtorEq, reduceIte, Nat.reduceAdd, Nat.reduceEqDiff, l7, l0, lo]
  by_cases c1 : J.dead ∨ D.off
  · have ea : J.add D b = (9, D, { J with dead := true }) := by unfold JD.add; rw [if_pos c1]
    rw [ea]
    cases hdd : J.dead
    · have ho : D.off = true := by rcases c1 with h | h; rw [hdd] at h; cases h; exact h
      simp (disch := first | (simp only [DS, reduceCtorEq]; done) | omega) only [WS, St.guard, St.put, evalO, reduceCtorEq, reduceIte, Nat.reduceAdd, Nat.reduceEqDiff, hdd, l0, lo, ho, s7, fin_tmp, leave_v]
      simp
    · simp (disch := first | (simp only [DS, reduceCtorEq]; done) | omega) only [WS, St.guard, St.put, evalO, reduceCtorEq, reduceIte, Nat.reduceAdd, Nat.reduceEqDiff, hdd, s7, fin_tmp, leave_v]
      simp
  have hdd : J.dead = false := by cases h : J.dead; rfl; exact absurd (.inl h) c1
  have ho : D.off = false := by cases h : D.off; rfl; exact absurd (.inr h) c1
  simp (disch := first | (simp only [DS, reduceCtorEq]; done) | omega) only [WS, St.guard, St.put, evalO, reduceCtorEq, reduceIte, Nat.reduceAdd, Nat.reduceEqDiff, hdd, l0, lo, ho, (A.vv _).lenSlice]
  by_cases c2 : b.length < 1 ∨ b.length > 400000
  · have ea : J.add D b = (2, D, J) := by unfold JD.add; rw [if_neg c1, if_pos c2]
    rw [ea]
    by_cases q1 : b.length < 1
    · have q1' : (b.length : Int) < 1 := by omega
      simp (disch := first | (simp only [DS, reduceCtorEq]; done) | omega) only [WS, St.guard, St.put, evalO, reduceCtorEq, reduceIte, Nat.reduceAdd, Nat.reduceEqDiff, q1', decide_true, fin_tmp, leave_v]
      simp
    · have q1' : ¬ (b.length : Int) < 1 := by omega
      have q2' : (b.length : Int) > 400000 := by omega
      simp (disch := first | (simp only [DS, reduceCtorEq]; done) | omega) only [WS, St.guard, St.put, evalO, reduceCtorEq, reduceIte, Nat.reduceAdd, Nat.reduceEqDiff, (A.vv _).lenSlice, q1', q2', decide_true, decide_false, fin_tmp, leave_v]
      simp
  have q1' : ¬ (b.length : Int) < 1 := by omega
  have q2' : ¬ (b.length : Int) > 400000 := by omega
  simp (disch := first | (simp only [DS, reduceCtorEq]; done) | omega) only [WS, St.guard, St.put, evalO, reduceCtorEq, reduceIte, Nat.reduceAdd, Nat.reduceEqDiff, (A.vv _).lenSlice, q1', q2', decide_true, decide_false]
  refine (WP_p (x := .int .i64 (needN b.length : Nat)) (by exact RNeed_spec H.rneed (by omega)) (by exact gd d5)).2 ?_
  simp (disch := first | (simp only [DS, reduceCtorEq]; done) | omega) only [WS, St.guard, St.put, evalO, reduceCtorEq, reduceIte, Nat.reduceAdd, Nat.reduceEqDiff, l2, l6, vBin_sub_i64]
  by_cases c3 : (needN b.length : Int) > (J.n : Int) - J.used
  · have ea : J.add D b = (6, D, J) := by unfold JD.add; rw [if_neg c1, if_neg c2, if_pos c3]
    rw [ea]
    simp (disch := first | (simp only [DS, reduceCtorEq]; done) | omega) only [WS, St.guard, St.put, evalO, reduceCtorEq, reduceIte, Nat.reduceAdd, Nat.reduceEqDiff, c3, decide_true, fin_tmp, leave_v]
    simp
  simp (disch := first | (simp only [DS, reduceCtorEq]; done) | omega) only [WS, St.guard, St.put, evalO, reduceCtorEq, reduceIte, Nat.reduceAdd, Nat.reduceEqDiff, c3, decide_false]
  obtain ⟨m, hm⟩ : ∃ m, m = needN b.length := ⟨_, rfl⟩
  have hb : b ≠ [] := by intro e; rw [e] at c2; simp at c2
  have hR : J.lay D b = layF D J.at' (secK J.ep J.recs.length m b) 0 m := by rw [hm]; rfl
  have hmb : m ≤ 20000 := by rw [hm]; omega
  have eadd : J.add D b = if (J.lay D b).1 = 0 then (0, (J.lay D b).2, J.note b m) else ((J.lay D b).1, (J.lay D b).2, { J with dead := true }) := by
    rw [hm]; unfold JD.add; rw [if_neg c1, if_neg c2, if_neg c3]
  have herr : (J.lay D b).1 = 0 ∨ (J.lay D b).1 = 9 := by
    rw [hR]
    refine layF_err m 0 z h0n fun j _ hj => ?_
    unfold JD.at'
    omega
  rw [← hm]
  rw [hR] at eadd herr
  refine WC_countP (P := fun i => layF (wrK D J.at' (secK J.ep J.recs.length m b) i) J.at' (secK J.ep J.recs.length m b) i (m - i) = layF D J.at' (secK J.ep J.recs.length m b) 0 m)
    (fun i => ⟨f___ref06_Journal__Add_H0 (.ptr (.o p) 8 0) a (.v (.int .i64 (m : Nat))) (.v (.int .i64 (i : Nat))), ⟨dj G P q p (wrK D J.at' (secK J.ep J.recs.length m b) i).sw (recB J.recs) (yC .o P.p q J), [none, none, none, none, none]⟩⟩) m ?_ rfl (fun i hi hP => ?_) (fun hP => ?_)
  · exact clear_fre (by simp only [clear_nil, List.foldl_cons, List.foldl_nil, Option.some.injEq, LS, reduceCtorEq, reduceIte, Nat.reduceAdd] <;> rfl) (by rfl) (by simp only [f___ref06_Journal__Add_H0, List.all_cons, List.all_nil, noRef_v, noRef_dead, noRef_own, noRef_ptr, noRef_nil, Bool.and_true, Bool.true_and, Bool.and_self, List.contains_cons, List.contains_nil, Bool.or_false, Nat.reduceBEq, Bool.not_false, na, np]) (by rfl)
  · have hlt : (i : Int) < (m : Int) := by omega
    have zi := wrK_siz (at' := J.at') (s := secK J.ep J.recs.length m b) z i
    have hnx : wrK D J.at' (secK J.ep J.recs.length m b) (i + 1) = (wrK D J.at' (secK J.ep J.recs.length m b) i).write (J.at' i) (secK J.ep J.recs.length m b i) := rfl
    rw [hnx]
    generalize wrK D J.at' (secK J.ep J.recs.length m b) i = E at *
    obtain ⟨k, hk⟩ : ∃ k, m - i = k + 1 := ⟨m - i - 1, by omega⟩
    rw [hk] at hP
    have hP' : (if writeE E (J.at' i) = 0 then layF (E.write (J.at' i) (secK J.ep J.recs.length m b i)) J.at' (secK J.ep J.recs.length m b) (i + 1) k else (writeE E (J.at' i), E.write (J.at' i) (secK J.ep J.recs.length m b i))) = layF D J.at' (secK J.ep J.recs.length m b) 0 m := hP
    have hi46 : i * 46 ≤ b.length := by unfold needN at hm; omega
    have cutle : i * 46 ≤ min ((i + 1) * 46) b.length := by omega
    obtain ⟨sv, su, sc⟩ := A.sub cutle (Nat.min_le_right _ _)
    rw [pc_cut] at sv
    have e1 : (46 : Int) * (i : Int) = ((i * 46 : Nat) : Int) := by omega
    have e2 : (i : Int) + 1 = ((i + 1 : Nat) : Int) := by omega
    have e3 : ((i * 46 : Nat) : Int) + 46 = (((i + 1) * 46 : Nat) : Int) := by omega
    have sl : ∀ L, prim ⟨dj G P q p E.sw (recB J.recs) (yC .o P.p q J), L⟩ (.slice 1 true true false) [a, .v (.int .i64 ((i * 46 : Nat) : Int)), .v (.int .i64 ((min ((i + 1) * 46) b.length : Nat) : Int))] = some (AM.sub a 1 (i * 46) (min ((i + 1) * 46) b.length), ⟨dj G P q p E.sw (recB J.recs) (yC .o P.p q J), L⟩) := fun L => (A.vv L).slice cutle (Nat.min_le_right _ _)
    have em : (m : Int) - 1 = ((m - 1 : Nat) : Int) := by omega
    have eq0 : ((i : Int) == 0) = decide (i = 0) := by
      by_cases h : i = 0
      · subst h; rfl
      · rw [decide_eq_false h, beq_eq_false_iff_ne]; omega
    have eqm : ((i : Int) == ((m - 1 : Nat) : Int)) = decide (i = m - 1) := by
      by_cases h : i = m - 1
      · rw [decide_eq_true h, beq_iff_eq]; omega
      · rw [decide_eq_false h, beq_eq_false_iff_ne]; omega
    simp (disch := first | (simp only [DS, reduceCtorEq]; done) | omega) only [f___ref06_Journal__Add_L0, f___ref06_Journal__Add_H0, WS, St.guard, St.put, evalO, reduceCtorEq, reduceIte, Nat.reduceAdd, Nat.reduceEqDiff, hlt, decide_true]
    refine WDP_er (by exact gd d5) rfl ?_
    refine ⟨_, _, l3 _ _ _ _, rfl, .inr ⟨rfl, gd d5⟩, ?_⟩
    simp (disch := first | (simp only [DS, reduceCtorEq]; done) | omega) only [WS, St.guard, St.put, evalO, reduceCtorEq, reduceIte, Nat.reduceAdd, Nat.reduceEqDiff, WDX_some, reduceIte, if_true, if_false, Bool.and_true, Bool.true_and, true_and, Bool.false_eq_true, false_or, true_or, Hp.over, AM.over, over_nil, List.foldl_cons, List.foldl_nil, List.set_cons_zero, List.set_cons_succ, List.getElem?_cons_zero, List.getElem?_cons_succ, Option.join_some, List.length_cons, List.length_nil, Prim.sites, List.cons_append, List.nil_append]
    refine WDP_er (by exact gd d5) rfl ?_
    refine ⟨_, _, l4 _ _ _ _, rfl, .inr ⟨rfl, gd d5⟩, ?_⟩
    simp (disch := first | (simp only [DS, reduceCtorEq]; done) | omega) only [WS, St.guard, St.put, evalO, reduceCtorEq, reduceIte, Nat.reduceAdd, Nat.reduceEqDiff, WDX_some, reduceIte, if_true, if_false, Bool.and_true, Bool.true_and, true_and, Bool.false_eq_true, false_or, true_or, Hp.over, AM.over, over_nil, List.foldl_cons, List.foldl_nil, List.set_cons_zero, List.set_cons_succ, List.getElem?_cons_zero, List.getElem?_cons_succ, Option.join_some, List.length_cons, List.length_nil, Prim.sites, List.cons_append, List.nil_append, ls, wrap_num, eq0, vBin_sub_i64, em, eqm, vBin_mul_i64, e1, vBin_add_i64, e3, (A.vv _).lenSlice, min_nat, sl]
    obtain ⟨x, hx⟩ : ∃ x, x = leafK J.ep J.recs.length m b i := ⟨_, rfl⟩
    obtain ⟨c, hc⟩ : ∃ c, c = AM.sub a 1 (i * 46) (min ((i + 1) * 46) b.length) := ⟨_, rfl⟩
    rw [← hc] at sv su sc ⊢
    have bd : ∀ h : Hp, prim h (.build [.int .u32 0, .int .u32 0, .bool false, .bool false, .slice none 0 0] [(0, 1), (1, 1), (2, 1), (3, 1), (4, 1)]) [.v (u32 J.ep), .v (u32 (BitVec.ofNat 32 J.recs.length)), .v (.bool (decide (i = 0))), .v (.bool (decide (i = m - 1))), c] = some (.agg (x.cells c), h) := fun h => by
      rw [px_build, hx]
      simp only [fills, sc]
      rfl
    have hr : x.right = true := by rw [hx, hm]; exact leafK_right he hb (by omega)
    obtain ⟨w, hw⟩ : ∃ w : Sec, w = secK J.ep J.recs.length m b i := ⟨_, rfl⟩
    have ew : x.bytes = w.1 := by rw [hw, secK_bytes, hx]
    have hlaid : x.laid = .tup [.agg (w.1.map byteAV), .v (.int .i64 0)] := by unfold LeafD.laid; rw [if_pos hr, ew]
    have hxd : x.d = pc b i := by rw [hx]; rfl
    have svv : ∀ E B cs L, View ⟨dj G P q p E B cs, L⟩ c 1 x.d.length (x.d.map byteAV) := fun E B cs L => by have := sv E B cs [] L; rw [List.append_nil] at this; rw [hxd]; exact this
    have gL : ∀ {E B cs d}, Good ⟨dj G P q p E B cs, [some (sBlk (x.cells c) d), none, none, none, none]⟩ := fun {E B cs d} => ⟨sBlk_good (leaf_labs (View.out (svv E B cs []))), trivial⟩
    have gW : ∀ {E B cs d} {X : Txt}, Good ⟨dj G P q p E B cs, [some (sBlk (x.cells c) d), some (dBlk (X.map byteAV) false false), none, none, none]⟩ := fun {E B cs d X} => ⟨sBlk_good (leaf_labs (View.out (svv E B cs []))), dBlk_good, trivial⟩
    have al : ∀ G, prim ⟨G, [none, none, none, none, none]⟩ (.alloc 0 [.int .u32 0, .int .u32 0, .bool false, .bool false, .slice none 0 0] []) [] = some (.ptr (.l 0) 5 0, ⟨G, [some (sBlk noLeaf true), none, none, none, none]⟩) := fun G => rfl
    simp (disch := first | (simp only [DS, reduceCtorEq]; done) | omega) only [WS, St.guard, St.put, evalO, reduceCtorEq, reduceIte, Nat.reduceAdd, Nat.reduceEqDiff, bd]
    refine WDP_of (.prim (al _)) (by exact gd d5) (by exact ⟨sBlk_good rfl, trivial⟩) rfl rfl ?_
    simp (disch := first | (simp only [DS, reduceCtorEq]; done) | omega) only [WS, St.guard, St.put, evalO, reduceCtorEq, reduceIte, Nat.reduceAdd, Nat.reduceEqDiff]
    refine WDP_of (.prim (store_s (j := 0) (n := 5) (off := 0) (sz := 5) (xs := x.cells c) rfl rfl rfl rfl (by omega))) (by exact ⟨sBlk_good rfl, trivial⟩) (by exact gL) rfl rfl ?_
    rw [show lay noLeaf 0 (x.cells c) = x.cells c from rfl]
    generalize (true && AV.lf.lfs (x.cells c)) = dd
    have ldx : ∀ G L, prim ⟨G, some (sBlk (x.cells c) dd) :: L⟩ (.load 5 true) [.ptr (.l 0) 5 0] = some (.agg (x.cells c), ⟨G, some (sBlk (x.cells c) dd) :: L⟩) := fun G L => rfl
    simp (disch := first | (simp only [DS, reduceCtorEq]; done) | omega) only [WS, St.guard, St.put, evalO, reduceCtorEq, reduceIte, Nat.reduceAdd, Nat.reduceEqDiff, ldx]
    refine (WP_r (r := x.laid) (by exact RefLay_spec H.toLeafLib (x := x) ((svv _ _ _ _).into bytes_lfs)) laid_lf (by exact gL)).2 ?_
    rw [hlaid]
    have al2 : ∀ G X, prim ⟨G, [X, none, none, none, none]⟩ (.alloc 1 zeros64 []) [] = some (.ptr (.l 1) 64 0, ⟨G, [X, some (dBlk (zs64.map byteAV) false false), none, none, none]⟩) := fun G X => alloc_zeros rfl
    have st : ∀ G X, prim ⟨G, [X, some (dBlk (zs64.map byteAV) false false), none, none, none]⟩ (.store 64 false) [.ptr (.l 1) 64 0, .agg (w.1.map byteAV)] = some (.v undef, ⟨G, [X, some (dBlk (w.1.map byteAV) false false), none, none, none]⟩) := fun G X =>
      store_all (j := 1) (cells := zs64.map byteAV) (o := false) (v := false) rfl (by simp [zs64_len]) (by rw [List.length_map]; exact w.2) bytes_lfs
    have ld : ∀ G X, prim ⟨G, [X, some (dBlk (w.1.map byteAV) false false), none, none, none]⟩ (.load 64 true) [.ptr (.l 1) 64 0] = some (.agg (w.1.map byteAV), ⟨G, [X, some (dBlk (w.1.map byteAV) false false), none, none, none]⟩) := fun G X => load_sec (j := 1) (bs := w.1) (o := false) (v := false) rfl w.2
    have eat : (J.frm : Int) + (J.used : Int) + (i : Int) = J.at' i := by unfold JD.at'; omega
    rw [← hw] at hP' ⊢
    simp (disch := first | (simp only [DS, reduceCtorEq]; done) | omega) only [WS, St.guard, St.put, evalO, reduceCtorEq, reduceIte, Nat.reduceAdd, Nat.reduceEqDiff, al2, st, l0, l1, l6, vBin_add_i64, ld, eat]
    have hx3 : ∀ g, [AV.ptr (.o P.p) 5 0, .v (.int .i64 (J.at' i)), .agg (w.1.map byteAV)].map (AV.ren (up g)) = [AV.ptr (.o P.p) 5 0, .v (.int .i64 (J.at' i)), .agg (w.1.map byteAV)] := fun g => by
      simp only [List.map_cons, List.map_nil, ren_sec]; rfl
    refine WDP_callU (fun L hg => opDj h (D := E.sw) (D' := (E.write (J.at' i) w).sw) (r := .v (.int .i64 (writeE E (J.at' i)))) rfl hx3 (fun G' hG' => by
      have e := refWrite_spec H.toRefDisk (P := P) (G := G') (D := E.sw) (by show P.Ok G'.length E.b.length; rw [zi.b]; exact hG') (by show E.l.length = E.b.length; rw [zi.l, zi.b]) zi.armed (at' := J.at' i) (s := w)
      rw [rwrite_sw, rwriteE_sw] at e
      exact e) (by exact hg)) (by exact gW) ?_
    simp (disch := first | (simp only [DS, reduceCtorEq]; done) | omega) only [WS, St.guard, St.put, evalO, reduceCtorEq, reduceIte, Nat.reduceAdd, Nat.reduceEqDiff]
    by_cases hw0 : writeE E (J.at' i) = 0
    · have hb0 : (writeE E (J.at' i) != 0) = false := by rw [hw0]; rfl
      rw [if_pos hw0] at hP'
      simp (disch := first | (simp only [DS, reduceCtorEq]; done) | omega) only [WS, St.guard, St.put, evalO, reduceCtorEq, reduceIte, Nat.reduceAdd, Nat.reduceEqDiff, hb0, vBin_add_i64, e2]
      refine ⟨?_, ?_⟩
      · exact clear_fre (by simp only [clear_nil, List.foldl_cons, List.foldl_nil, Option.some.injEq, LS, reduceCtorEq, reduceIte, Nat.reduceAdd] <;> rfl) (by rfl) (by simp only [f___ref06_Journal__Add_H0, List.all_cons, List.all_nil, noRef_v, noRef_dead, noRef_own, noRef_ptr, noRef_nil, Bool.and_true, Bool.true_and, Bool.and_self, List.contains_cons, List.contains_nil, Bool.or_false, Nat.reduceBEq, Bool.not_false, na, np]) (by rfl)
      · rw [show m - (i + 1) = k by omega]
        exact hP'
    · have hb0 : (writeE E (J.at' i) != 0) = true := by rw [bne_iff_ne]; exact hw0
      rw [if_neg hw0] at hP'
      rw [← hP'] at eadd herr
      have h9 : writeE E (J.at' i) = 9 := by rcases herr with h | h; exact absurd h hw0; exact h
      rw [if_neg hw0] at eadd
      rw [eadd, h9]
      simp only [h9]
      simp (disch := first | (simp only [DS, reduceCtorEq]; done) | omega) only [WS, St.guard, St.put, evalO, reduceCtorEq, reduceIte, Nat.reduceAdd, Nat.reduceEqDiff, Int.reduceBNe, s7, fin_tmp, leave_v]
      simp
  · have hP' : layF (wrK D J.at' (secK J.ep J.recs.length m b) m) J.at' (secK J.ep J.recs.length m b) m 0 = layF D J.at' (secK J.ep J.recs.length m b) 0 m := by rw [← hP, Nat.sub_self]
    rw [← hP'] at eadd herr
    have zi := wrK_siz (at' := J.at') (s := secK J.ep J.recs.length m b) z m
    generalize wrK D J.at' (secK J.ep J.recs.length m b) m = E at *
    have eE : layF E J.at' (secK J.ep J.recs.length m b) m 0 = (writeE E 0, E.sync) := rfl
    rw [eE] at eadd herr
    show WC prog _ _ _ _
    simp (disch := first | (simp only [DS, reduceCtorEq]; done) | omega) only [f___ref06_Journal__Add_L0, f___ref06_Journal__Add_H0, WS, St.guard, St.put, evalO, reduceCtorEq, reduceIte, Nat.reduceAdd, Nat.reduceEqDiff, Int.lt_irrefl, decide_false, l0]
    refine WP_of (opDj h (D := E.sw) (D' := E.sync.sw) (r := .v (.int .i64 (writeE E 0))) rfl (fun g => rfl) (fun G' hG' => refSync_spec H.toRefDisk (by rw [zi.b]; exact hG') (by rw [zi.l, zi.b]) (by rw [zi.a, zi.b]) zi.armed (by rw [zi.b]; exact h0n) (by rw [zi.b]; exact hN)) (by exact gd d5)) ?_
    by_cases hw0 : writeE E 0 = 0
    · rw [if_pos hw0] at eadd
      rw [eadd, hw0]
      have h0 : 0 < b.length := by omega
      have s5 : ∀ (E : DskD) B (J : JD) (e : BitVec 32) L, prim ⟨dj G P q p E B (yC .o P.p q J), L⟩ (.store 1 false) [.ptr (.o p) 8 5, .v (u32 e)] = some (.v undef, ⟨dj G P q p E B (yC .o P.p q { J with fi := e }), L⟩) := fun E B J e L => dj_st h (i := 5) rfl (by omega) rfl
      have s6 : ∀ (E : DskD) B (J : JD) (u : Nat) L, prim ⟨dj G P q p E B (yC .o P.p q J), L⟩ (.store 1 false) [.ptr (.o p) 8 6, .v (.int .i64 (u : Nat))] = some (.v undef, ⟨dj G P q p E B (yC .o P.p q { J with used := u }), L⟩) := fun E B J u L => dj_st h (i := 6) rfl (by omega) rfl
      have yrec : ∀ (J : JD), (yC .o P.p q J).set 4 (.own (.o q) (J.recs.length + 1) 0 (J.recs.length + 1) 1 none) = yC .o P.p q { J with recs := J.recs ++ [b] } := fun J => by
        have e : (J.recs ++ [b]).length = J.recs.length + 1 := by simp
        simp only [yC, e]; rfl
      obtain ⟨J1, hJ1⟩ : ∃ J1 : JD, J1 = { J with fi := if J.recs = [] then J.ep else J.fi } := ⟨_, rfl⟩
      have hJr : J1.recs = J.recs := by rw [hJ1]
      have hJu : J1.used = J.used := by rw [hJ1]
      have hJn : J.note b m = { J1 with recs := J1.recs ++ [b], la := J1.ep, used := J1.used + m } := by rw [hJ1]; rfl
      have hum : ((J1.used : Int) + (m : Int)) = ((J1.used + m : Nat) : Int) := by omega
      have gB : ∀ {E : DskD} {B cs} {X : Blk}, X.labs = [] → Good ⟨dj G P q p E B cs, [none, none, some X, none, none]⟩ := fun hX => gd (by intro B hB c e; subst e; simp at hB; subst hB; exact hX)
      have gC : ∀ {E : DskD} {B cs} {X Y : Blk}, X.labs = [] → Y.labs = [] → Good ⟨dj G P q p E B cs, [none, none, some X, some Y, none]⟩ := fun hX hY => gd (by intro B hB c e; subst e; simp at hB; rcases hB with h | h <;> subst h; exact hX; exact hY)
      rw [hJn]
      simp (disch := first | (simp only [DS, reduceCtorEq]; done) | omega) only [WS, St.guard, St.put, evalO, reduceCtorEq, reduceIte, Nat.reduceAdd, Nat.reduceEqDiff, Int.reduceBNe, l4, ls, recs_nil]
      by_cases hr0 : J.recs = []
      case' pos =>
        have hdr : decide (J.recs = []) = true := decide_eq_true hr0
        have hJ2 : J1 = { J with fi := J.ep } := by rw [hJ1, if_pos hr0]
        simp (disch := first | (simp only [DS, reduceCtorEq]; done) | omega) only [WS, St.guard, St.put, evalO, reduceCtorEq, reduceIte, Nat.reduceAdd, Nat.reduceEqDiff, hdr, l3, s5]
        simp only [← hJ2]
        rw [← hJr]
      case' neg =>
        have hdr : decide (J.recs = []) = false := decide_eq_false hr0
        have hJ2 : J1 = J := by rw [hJ1, if_neg hr0]
        simp (disch := first | (simp only [DS, reduceCtorEq]; done) | omega) only [WS, St.guard, St.put, evalO, reduceCtorEq, reduceIte, Nat.reduceAdd, Nat.reduceEqDiff, hdr]
        rw [← hJ2]
      all_goals
        have ap2 := fun E B cs => append_nil (G := dj G P q p E B cs) (L := [none, none, none, none, none]) (site := 2) (esz := 1) (bytes := 1) (len := b.length) (x := a) (cells := b.map byteAV) (A.vv _) bytes_lfs rfl h0 (by omega)
        simp only [Nat.mul_one] at ap2
        refine WDP_er (by exact gd d5) rfl ?_
        refine ⟨_, _, l4 _ _ _ _, rfl, .inr ⟨rfl, gd d5⟩, ?_⟩
        simp (disch := first | (simp only [DS, reduceCtorEq]; done) | omega) only [WS, St.guard, St.put, evalO, reduceCtorEq, reduceIte, Nat.reduceAdd, Nat.reduceEqDiff, WDX_some, reduceIte, if_true, if_false, Bool.and_true, Bool.true_and, true_and, Bool.false_eq_true, false_or, true_or, Hp.over, AM.over, over_nil, List.foldl_cons, List.foldl_nil, List.set_cons_zero, List.set_cons_succ, List.getElem?_cons_zero, List.getElem?_cons_succ, Option.join_some, List.length_cons, List.length_nil, Prim.sites, List.cons_append, List.nil_append]
        refine WDP_of (.prim (ap2 _ _ _)) (by exact gd d5) (by exact gB rfl) rfl rfl ?_
        simp (disch := first | (simp only [DS, reduceCtorEq]; done) | omega) only [WS, St.guard, St.put, evalO, reduceCtorEq, reduceIte, Nat.reduceAdd, Nat.reduceEqDiff]
        refine WDP_of (.prim frz_rowO) (by exact gB rfl) (by exact gC rfl rfl) rfl rfl ?_
        simp (disch := first | (simp only [DS, reduceCtorEq]; done) | omega) only [WS, St.guard, St.put, evalO, reduceCtorEq, reduceIte, Nat.reduceAdd, Nat.reduceEqDiff]
        refine WDP_loud (append_rec (b := b) (m := 3) (dj_q h) (by exact rfl) (by rw [hJr]; omega)) ((gC rfl rfl).okAt) ?_
        simp only [dj_setq h]
        simp (disch := first | (simp only [DS, reduceCtorEq]; done) | omega) only [WS, St.guard, St.put, evalO, reduceCtorEq, reduceIte, Nat.reduceAdd, Nat.reduceEqDiff]
        refine WDP_loud (dj_stown h (i := 4) rfl (by omega)) ((gC rfl rfl).okAt) ?_
        rw [yrec]
        simp (disch := first | (simp only [DS, reduceCtorEq]; done) | omega) only [WS, St.guard, St.put, evalO, reduceCtorEq, reduceIte, Nat.reduceAdd, Nat.reduceEqDiff, l6, vBin_add_i64, hum, s6, fin_tmp, leave_v]
        simp
        try rfl
    · have h9 : writeE E 0 = 9 := by rcases herr with h | h; exact absurd h hw0; exact h
      rw [if_neg hw0] at eadd
      rw [eadd, h9]
      simp only [h9]
      simp (disch := first | (simp only [DS, reduceCtorEq]; done) | omega) only [WS, St.guard, St.put, evalO, reduceCtorEq, reduceIte, Nat.reduceAdd, Nat.reduceEqDiff, Int.reduceBNe, s7, fin_tmp, leave_v]
      simp
end Go.AM
