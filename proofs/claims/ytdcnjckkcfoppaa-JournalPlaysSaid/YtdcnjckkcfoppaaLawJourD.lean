import Derived.Test.YtdcnjckkcfoppaaJourF
import Derived.Test.YtdcnjckkcfoppaaLawJourB
import Derived.Test.YtdcnjckkcfoppaaLawScopeB
set_option linter.unusedVariables false
set_option linter.unusedSimpArgs false
namespace Go.AM
variable {prog : String → Option IFn}
variable {n frm N : Nat} {D E : DskD} {J K : JD} {X Y : List (Option Blk)}
structure Law8P (prog : String → Option IFn) : Prop extends Law8E prog, RowLib prog, OwnB8 prog where
  alike : prog "haberdash/haberdashlaw08.alike" = some f_law08_alike
  rneed : prog "haberdash/haberdashref06.Need" = some f_ref06_Need
  radd : prog "(*haberdash/haberdashref06.Journal).Add" = some f___ref06_Journal__Add
  ropen : prog "haberdash/haberdashref06.Open" = some f_ref06_Open
  rrec : prog "(*haberdash/haberdashref06.Journal).record" = some f___ref06_Journal__record
theorem Law8P.refJ (H : Law8P prog) : RefJ prog := { H.toLaw8.toJourLib.toTakeLib, H.ref with rneed := H.rneed, radd := H.radd }
abbrev yZ : List (Option Blk) := [none, none, none, none, none, none, none, none, none, none]
theorem yz_good {B : Option Blk} (hB : DB B) : goodL 0 12 (B :: yZ) := goodL_opt (fun b hb => by rw [hB b hb]; rfl) trivial
theorem pO_db {cs : List AV} : DB (pO cs) := fun b h => by cases h; rfl
theorem WDP_pv {f xs ld dst l} {k : List Kf} {s : St} {Q : Out → St → Prop} {x : Value} (he : Ev prog (.op (.call f []) xs s.h) (.val (.v x) s.h)) (hg : Good s.h) (h : WD prog l k (s.put dst (.v x)) Q) : WDP prog (.call f []) xs [] [] ld dst l k s Q :=
  WDP_of he hg hg rfl rfl h
theorem mod_op (hf : prog "haberdash/haberdashplay.Mod" = some f_play_Mod) {c z : Int} (n : Nat) (hz : z = n) (h0 : 0 < n) (hn : n < 9223372036854775808) {h : Hp} (hg : Good h) :
    Ev prog (.op (.call "haberdash/haberdashplay.Mod" []) [.v (.int .i64 c), .v (.int .i64 z)] h) (.val (.v (.int .i64 (umod c n : Nat))) h) :=
  op_turn h (Mod_spec hf n hz h0 hn) rfl rfl rfl hg hg
theorem WDP_ld {p xs m dst l} {k : List Kf} {s : St} {Q : Out → St → Prop} {a : AV} {h' : Hp} (he : Ev prog (.op p xs s.h) (.val a h')) (hg : Good s.h) (hl : h'.L.length = s.h.L.length) (h : WD prog l k (({ s with h := h' } : St).put dst a) Q) : WDP prog p xs [] m true dst l k s Q := by
  refine WDP_go (h1 := h') (by rw [over_nil]; exact he) (by simp) hg hl (.inl rfl) ?_
  rw [over_nil]; exact h
theorem WDP_12 {p xs m dst l env} {k : List Kf} {Q : Out → St → Prop} {a : AV} {D' E' : DskD} {J' K' : JD} {B : Option Blk} {R : List (Option Blk)} (he : Ev prog (.op p xs ⟨[], yl N D J E K (none :: R)⟩) (.val a ⟨[], yl N D' J' E' K' (none :: R)⟩)) (hs : p.sites = []) (hg : Good ⟨[], yl N D J E K (B :: R)⟩)
    (h : WD prog l k ((⟨env, ⟨[], yl N D' J' E' K' (B :: R)⟩⟩ : St).put dst a) Q) : WDP prog p xs [12] m true dst l k ⟨env, ⟨[], yl N D J E K (B :: R)⟩⟩ Q := by
  refine WDP_go (h1 := ⟨[], yl N D' J' E' K' (none :: R)⟩) he (by rw [hs]; rfl) hg (by simp only [yl_len, List.length_cons]) (.inl rfl) ?_
  exact h
def yO (q : Nat) (J : JD) : Option Blk := some (sBlk (jC .l 3 q J) false)
def yQ (q : Nat) (J : JD) : Option Blk := some (sBlk (yC .l 7 q J) false)
theorem yO_good {q k g : Nat} {J : JD} {Bs} (hk : 3 < k) (hq : q < k) (h : goodL g (k + 1) Bs) : goodL g k (yO q J :: Bs) := ⟨sBlk_good (by rw [jC_labs]; simp [refLt]; omega), h⟩
abbrev MV5 : List (Nat × Nat) := [(14, 8), (15, 9), (16, 10), (17, 11)]
abbrev MV4 : List (Nat × Nat) := [(18, 8), (19, 9), (20, 10), (21, 11)]
set_option maxRecDepth 10000 in
theorem pMove5 {env cs c} {J2 : JD} : mvSt MV5 ⟨env, ⟨[], yl N D J E K [pO cs, c, recB J2.recs, yO 14 J2, recB J2.recs, yQ 16 J2, none, none, none, none, none]⟩⟩ = (some ⟨env.map (AV.ren (mvLab MV5)), ⟨[], yl N D J2 E J2 (pO cs :: c.map (Blk.ren (mvLab MV5)) :: List.replicate 9 none)⟩⟩) := by
  unfold mvSt
  refine (if_pos (by rfl)).trans ?_
  rfl
set_option maxRecDepth 10000 in
theorem pMove4 {env cs c} {J2 : JD} : mvSt MV4 ⟨env, ⟨[], yl N D J E K [pO cs, c, none, none, none, none, recB J2.recs, yO 18 J2, recB J2.recs, yQ 20 J2, none]⟩⟩ = (some ⟨env.map (AV.ren (mvLab MV4)), ⟨[], yl N D J2 E J2 (pO cs :: c.map (Blk.ren (mvLab MV4)) :: List.replicate 9 none)⟩⟩) := by
  unfold mvSt
  refine (if_pos (by rfl)).trans ?_
  rfl
set_option maxRecDepth 100000 in
set_option maxHeartbeats 4000000 in
theorem JournalPlays_law (H : Law8P prog) (hp : prog "haberdash/haberdashlaw08.JournalPlays" = some f_law08_JournalPlays) {args} (h : IsAll [.int .i64, .int .i64, .slice stJTy] args) :
    ∃ G2, Ev prog (.call "haberdash/haberdashlaw08.JournalPlays" args []) (.ret (.v (.bool true)) G2) := by
  rcases args with _ | ⟨a0, _ | ⟨a1, _ | ⟨a2, _ | _⟩⟩⟩ <;> try (simp [IsAll] at h; done)
  obtain ⟨⟨c0', h0, rfl⟩, ⟨c1', h1, rfl⟩, ⟨c2', h2, rfl⟩, _⟩ := h
  obtain ⟨n0, rfl, hn0⟩ := is_i64 h0
  obtain ⟨m0, rfl, hm0⟩ := is_i64 h1
  obtain ⟨a, xs, rfl, va, ham⟩ := is_stJs h2
  have HJ := H.toLaw8.toJourLib
  have HD := HJ.toDiskLib
  have na : ∀ ks, noRef ks a = true := fun ks => noRef_out (View.out (va ⟨[], []⟩))
  have ra := view_plain (va ⟨[], []⟩)
  have h12 := umod_lt (c := n0) (n := 14) (by omega)
  have h13 := umod_lt (c := m0) (n := 3) (by omega)
  refine ⟨[], call_of_fin hp ?_⟩
  simp only [f_law08_JournalPlays_B, enter, List.length_cons, List.length_nil, List.replicate, Nat.reduceAdd, Nat.reduceSub, List.cons_append, List.nil_append, Ty.arg, intAV]
  have gZ : Good ⟨[], List.replicate 23 none⟩ := by exact trivial
  simp (disch := first | (simp only [DS, reduceCtorEq]; done) | omega) only [WS, St.guard, St.put, evalO, reduceCtorEq, reduceIte, Nat.reduceAdd, Nat.reduceEqDiff]
  refine WP_of (by exact mod_op H.mod 14 rfl (by omega) (by omega) gZ) ?_
  simp (disch := first | (simp only [DS, reduceCtorEq]; done) | omega) only [WS, St.guard, St.put, evalO, reduceCtorEq, reduceIte, Nat.reduceAdd, Nat.reduceEqDiff, vBin_add_i64]
  refine WP_of (by exact mod_op H.mod 3 rfl (by omega) (by omega) gZ) ?_
  simp (disch := first | (simp only [DS, reduceCtorEq]; done) | omega) only [WS, St.guard, St.put, evalO, reduceCtorEq, reduceIte, Nat.reduceAdd, Nat.reduceEqDiff, vBin_add_i64]
  obtain ⟨n, hm⟩ : ∃ m : Nat, m = umod n0 14 + 1 := ⟨_, rfl⟩
  obtain ⟨frm, hfr⟩ : ∃ m : Nat, m = umod m0 3 := ⟨_, rfl⟩
  obtain ⟨N, hN⟩ : ∃ m : Nat, m = n + frm + 2 := ⟨_, rfl⟩
  have em : (1 : Int) + ((umod n0 14 : Nat) : Int) = ((n : Nat) : Int) := by omega
  have eN : ((n : Nat) : Int) + ((frm : Nat) : Int) + 2 = ((N : Nat) : Int) := by omega
  have bN1 : ((n : Nat) : Int) + ((frm : Nat) : Int) = ((n + frm : Nat) : Int) := by omega
  have eN' : ((n + frm : Nat) : Int) + 2 = ((N : Nat) : Int) := by omega
  rw [em, ← hfr, bN1, eN']
  have n1 : 1 ≤ n := by omega
  have N1 : 1 ≤ N := by omega
  have N2 : N ≤ 20000 := by omega
  have fN : frm + n ≤ N := by omega
  refine WP_of (h' := ⟨[], dk 0 (some N) false (newD N) (List.replicate 19 none)⟩) (by exact op_dsk (D := newD N) (R := fun a => .tup [a, .v (.int .i64 0)]) (fun ρ a => rfl) (New_spec HD N1 N2) (by decide) rfl rfl rfl rfl gZ) ?_
  simp (disch := first | (simp only [DS, reduceCtorEq]; done) | omega) only [WS, St.guard, St.put, evalO, reduceCtorEq, reduceIte, Nat.reduceAdd, Nat.reduceEqDiff, vBin_add_i64, bN1, eN']
  have g1 : Good ⟨[], dk 0 (some N) false (newD N) (List.replicate 19 none)⟩ := dk_good trivial
  have g2 : Good ⟨[], dk 0 (some N) false (newD N) (dk 4 (some N) false (newD N).sw (List.replicate 15 none))⟩ := dk_good (dk_good trivial)
  refine WP_of (h' := ⟨[], dk 0 (some N) false (newD N) (dk 4 (some N) false (newD N).sw (List.replicate 15 none))⟩) (by exact op_dsk (D := newD N) (R := fun a => a) (fun ρ a => rfl) (refNew_spec H.ref N1 N2) (by decide) rfl rfl rfl rfl g1) ?_
  simp (disch := first | (simp only [DS, reduceCtorEq]; done) | omega) only [WS, St.guard, St.put, evalO, reduceCtorEq, reduceIte, Nat.reduceAdd, Nat.reduceEqDiff]
  have z0 : Siz (newD N) N := .new
  have hE0 : newE (newD N) (frm : Nat) (n : Nat) (epW 1) = 0 := newE_ok rfl z0 n1 fN (by omega) (by omega)
  have e1w : (.int .u32 1 : Value) = u32 (epW 1) := rfl
  rw [e1w]
  have dp0 : ∀ {M : List (Option Blk)}, 23 ≤ M.length → (dpos 0 (some N) false).Ok M.length N := fun hM => dpos_ok (by omega) le_some
  have dp4 : ∀ {M : List (Option Blk)}, 23 ≤ M.length → (dpos 4 (some N) false).Ok M.length N := fun hM => dpos_ok (by omega) le_some
  obtain ⟨J0, hJ0⟩ : ∃ J0, J0 = newJ frm n (epW 1) := ⟨_, rfl⟩
  have g3 : Good ⟨[], dk 0 (some N) false (newD N) (dk 4 (some N) false (newD N).sw (recB J0.recs :: some (sBlk (jC .l 3 8 J0) false) :: List.replicate 13 none))⟩ := dk_good (dk_good ⟨dBlk_good, sBlk_good (by rw [jC_labs]; rfl), trivial⟩)
  refine WP_of (h' := ⟨[], dk 0 (some N) false (newD N) (dk 4 (some N) false (newD N).sw (recB J0.recs :: some (sBlk (jC .l 3 8 J0) false) :: List.replicate 13 none))⟩) (by rw [hJ0]; exact mNew (P := dpos 0 (some N) false) (D := newD N) (i := 8) (j := 9) rfl (dp0 (by simp [dk])) z0 N2 g2 hE0 (by omega) rfl rfl HJ) ?_
  simp (disch := first | (simp only [DS, reduceCtorEq]; done) | omega) only [WS, St.guard, St.put, evalO, reduceCtorEq, reduceIte, Nat.reduceAdd, Nat.reduceEqDiff]
  have gy : ∀ {D E J K B}, DB B → Good ⟨[], yl N D J E K (B :: yZ)⟩ := fun hB => yl_good (yz_good hB)
  refine WP_of (h' := ⟨[], yl N (newD N) J0 (newD N).sw J0 (none :: yZ)⟩) (by rw [hJ0] at g3 ⊢; exact mBlank (P := dpos 4 (some N) false) (D := newD N) (i := 10) (j := 11) rfl (dp4 (by simp [dk])) z0 N2 g3 hE0 (by omega) rfl rfl H.blank) ?_
  simp (disch := first | (simp only [DS, reduceCtorEq]; done) | omega) only [WS, St.guard, St.put, evalO, reduceCtorEq, reduceIte, Nat.reduceAdd, Nat.reduceEqDiff]
  refine (WP_p (x := .bool true) (by exact awake8_spec H.toLaw8) (by exact gy DB.z)).2 ?_
  simp (disch := first | (simp only [DS, reduceCtorEq]; done) | omega) only [WS, St.guard, St.put, evalO, reduceCtorEq, reduceIte, Nat.reduceAdd, Nat.reduceEqDiff, Int.reduceBNe, bne_self_eq_false, isNilV, Hp.isNil]
  have inv := fun i hi => plN_inv n1 fN N2 (xs := xs) i hi
  refine WC_count (fun i => ⟨f_law08_JournalPlays_H0 (.v (.int .i64 (n : Nat))) (.v (.int .i64 (frm : Nat))) a (.ptr (.l 3) 5 0) (.ptr (.l 7) 5 0) (.v (u32 (epW (plN n frm N xs i).2.2))) (.ptr (.l 9) 9 0) (.ptr (.l 11) 8 0) (.v (.int .i64 (i : Nat))),
      ⟨[], yl N (plN n frm N xs i).1 (plN n frm N xs i).2.1 (plN n frm N xs i).1.sw (plN n frm N xs i).2.1 (none :: yZ)⟩⟩) (min xs.length 40) ?_ (fun i hi => ?_) ?_
  · rw [hJ0]
    exact clear_fre (by simp only [clear_nil, List.foldl_cons, List.foldl_nil, Option.some.injEq, LS, reduceCtorEq, reduceIte, Nat.reduceAdd] <;> rfl) (by rfl) (by simp only [f_law08_JournalPlays_H0, List.all_cons, List.all_nil, noRef_v, noRef_dead, noRef_own, noRef_ptr, noRef_nil, Bool.and_true, Bool.true_and, Bool.and_self, List.contains_cons, List.contains_nil, Bool.or_false, Nat.reduceBEq, Bool.not_false, na]) (by rfl)
  · have hlt : (i : Int) < (xs.length : Int) := by omega
    have hlt2 : (i : Int) < 40 := by omega
    obtain ⟨x, hx⟩ : ∃ x, xs[i]? = some x := ⟨_, List.getElem?_eq_getElem (show i < xs.length by omega)⟩
    have I := inv i (by omega)
    have I' := inv (i + 1) (by omega)
    have hnx : plN n frm N xs (i + 1) = plSt n frm N x (plN n frm N xs i) := by
      show (match xs[i]? with | some x => _ | none => _) = _
      rw [hx]
    rw [hnx] at I' ⊢
    generalize plN n frm N xs i = q at *
    obtain ⟨D, J, e⟩ := q
    obtain ⟨z, t, jn, jf, ie1, ie2⟩ := I
    simp only at z t jn jf ie1 ie2
    have cl : x.cells.length = 4 := rfl
    have vb := x.vb; have vk := x.vk
    have y0 : ∀ {D E J K Y}, prim ⟨[], yl N D J E K (pO x.cells :: Y)⟩ (.load 1 false) [.ptr (.l 12) 4 0] = some (.v (.int .i64 x.kind), ⟨[], yl N D J E K (pO x.cells :: Y)⟩) := yE_i (by omega) cl rfl
    have y1 : ∀ {D E J K Y}, prim ⟨[], yl N D J E K (pO x.cells :: Y)⟩ (.load 1 false) [.ptr (.l 12) 4 1] = some (.v (.int .i64 x.at'), ⟨[], yl N D J E K (pO x.cells :: Y)⟩) := yE_i (by omega) cl rfl
    have y2 : ∀ {D E J K Y}, prim ⟨[], yl N D J E K (pO x.cells :: Y)⟩ (.load 1 false) [.ptr (.l 12) 4 2] = some (x.ba, ⟨[], yl N D J E K (pO x.cells :: Y)⟩) := yE_i (by omega) cl rfl
    have y3 : ∀ {D E J K Y}, prim ⟨[], yl N D J E K (pO x.cells :: Y)⟩ (.load 1 false) [.ptr (.l 12) 4 3] = some (x.ka, ⟨[], yl N D J E K (pO x.cells :: Y)⟩) := yE_i (by omega) cl rfl
    simp (disch := first | (simp only [DS, reduceCtorEq]; done) | omega) only [f_law08_JournalPlays_L0, f_law08_JournalPlays_H0, WS, St.guard, St.put, evalO, reduceCtorEq, reduceIte, Nat.reduceAdd, Nat.reduceEqDiff, (va _).lenSlice, goInt, hlt, hlt2, decide_true, stJ_ix (va _) hx, stJ_ld (va _) hx, yE_new,
      yE_st (cs := [.v (.int .i64 0), .v (.int .i64 0), .v (.slice none 0 0), .v (.slice none 0 0)]) rfl cl x.lf, y2, (vb _).lenSlice]
    by_cases hb : x.b.length > 300
    · have hb' : (x.b.length : Int) > 300 := by omega
      simp (disch := first | (simp only [DS, reduceCtorEq]; done) | omega) only [WS, St.guard, St.put, evalO, reduceCtorEq, reduceIte, Nat.reduceAdd, Nat.reduceEqDiff, hb', decide_true, fin_tmp, leave_v]
      simp
    have hb' : ¬ (x.b.length : Int) > 300 := by omega
    simp (disch := first | (simp only [DS, reduceCtorEq]; done) | omega) only [WS, St.guard, St.put, evalO, reduceCtorEq, reduceIte, Nat.reduceAdd, Nat.reduceEqDiff, hb', decide_false, y3, (vk _).lenSlice]
    by_cases hk : x.keep.length > 40
    · have hk' : (x.keep.length : Int) > 40 := by omega
      simp (disch := first | (simp only [DS, reduceCtorEq]; done) | omega) only [WS, St.guard, St.put, evalO, reduceCtorEq, reduceIte, Nat.reduceAdd, Nat.reduceEqDiff, hk', decide_true, fin_tmp, leave_v]
      simp
    have hk' : ¬ (x.keep.length : Int) > 40 := by omega
    simp (disch := first | (simp only [DS, reduceCtorEq]; done) | omega) only [WS, St.guard, St.put, evalO, reduceCtorEq, reduceIte, Nat.reduceAdd, Nat.reduceEqDiff, hk', decide_false, y0]
    refine WP_of (by exact mod_op H.mod 7 rfl (by omega) (by omega) (gy pO_db)) ?_
    have h7 := umod_lt (c := x.kind) (n := 7) (by omega)
    have hst : plSt n frm N x (D, J, e) = match umod x.kind 7 with
        | 3 => ({ D with armed := x.at'.toNat }, J, e)
        | 4 => ((D.crash x.keep).start, openJ (D.crash x.keep).start frm n (epW (e + 1)), e + 1)
        | 5 => ((D.crash x.keep).start, newJ frm n (epW (e + 1)), e + 1)
        | 6 => ((D.write ((umod x.at' N : Nat) : Int) (handS x.b)).start, openJ (D.write ((umod x.at' N : Nat) : Int) (handS x.b)).start frm n (epW (e + 1)), e + 1)
        | _ => ((J.add D x.b).2.1, (J.add D x.b).2.2, e) := rfl
    have hMod : ∀ {h : Hp}, Good h → Ev prog (.op (.call "haberdash/haberdashplay.Mod" []) [.v (.int .i64 x.kind), .v (.int .i64 7)] h) (.val (.v (.int .i64 (umod x.kind 7 : Nat))) h) := fun hg => mod_op H.mod 7 rfl (by omega) (by omega) hg
    generalize umod x.kind 7 = m at *
    have hal : ∀ {D J X}, TurnOk N J → goodL 0 12 X → Ev prog (.op (.call "haberdash/haberdashlaw08.alike" []) [.ptr (.l 9) 9 0, .ptr (.l 11) 8 0] ⟨[], yl N D J D.sw J X⟩) (.val (.v (.bool true)) ⟨[], yl N D J D.sw J X⟩) := fun t hc => by
      have hroom : room = 140737488355328 := rfl
      have tu := t.u; have tf := t.f; have tr := t.r
      exact yAlike HJ H.toRowLib H.alike hc rfl rfl rfl (fun b hb => (t.ne b hb).1) (fun b hb => by have := (t.ne b hb).2; omega) (by omega)
    have za := z.a; have zb := z.b; have zl := z.l; have zm := z.armed
    have hxk : ∀ p, [AV.ptr (.l p) 5 0, x.ka].map (AV.ren (up 0)) = [.ptr (.o p) 5 0, x.ka] := fun p => by
      simp only [List.map_cons, List.map_nil, view_plain (vk ⟨[], []⟩), AV.ren, up, Nat.zero_add]
    have hcs : m = 3 ∨ m = 4 ∨ m = 5 ∨ m = 6 ∨ (m = 0 ∨ m = 1 ∨ m = 2) := by omega
    rcases hcs with rfl | rfl | rfl | rfl | hm
    case inl =>
      rw [hst] at I' ⊢
      simp (disch := first | (simp only [DS, reduceCtorEq]; done) | omega) only [WS, St.guard, St.put, evalO, reduceCtorEq, reduceIte, Nat.reduceAdd, Nat.reduceEqDiff, Int.cast_ofNat_Int, Int.reduceBEq, y1]
      refine WP_of (yD1 (D' := { D with armed := x.at'.toNat }) rfl (yz_good pO_db) (fun G' hG' => Arm_spec HD hG')) ?_
      simp (disch := first | (simp only [DS, reduceCtorEq]; done) | omega) only [WS, St.guard, St.put, evalO, reduceCtorEq, reduceIte, Nat.reduceAdd, Nat.reduceEqDiff, y1]
      refine WP_of (yD2 (E' := ({ D with armed := x.at'.toNat } : DskD).sw) rfl (yz_good pO_db) (fun G' hG' => refArm_spec H.ref hG')) ?_
      simp (disch := first | (simp only [DS, reduceCtorEq]; done) | omega) only [WS, St.guard, St.put, evalO, reduceCtorEq, reduceIte, Nat.reduceAdd, Nat.reduceEqDiff]
      refine WP_of (hal I'.t (yz_good pO_db)) ?_
      simp (disch := first | (simp only [DS, reduceCtorEq]; done) | omega) only [WS, St.guard, St.put, evalO, reduceCtorEq, reduceIte, Nat.reduceAdd, Nat.reduceEqDiff, vBin_add_i64]
      exact clear_fre (by simp only [clear_nil, List.foldl_cons, List.foldl_nil, Option.some.injEq, LS, reduceCtorEq, reduceIte, Nat.reduceAdd] <;> rfl) (by rfl) (by simp only [f_law08_JournalPlays_H0, List.all_cons, List.all_nil, noRef_v, noRef_dead, noRef_own, noRef_ptr, noRef_nil, Bool.and_true, Bool.true_and, Bool.and_self, List.contains_cons, List.contains_nil, Bool.or_false, Nat.reduceBEq, Bool.not_false, na]) (by rfl)
    case inr.inl =>
      rw [hst] at I' ⊢
      simp (disch := first | (simp only [DS, reduceCtorEq]; done) | omega) only [WS, St.guard, St.put, evalO, reduceCtorEq, reduceIte, Nat.reduceAdd, Nat.reduceEqDiff, Int.cast_ofNat_Int, Int.reduceBEq, y0]
      refine WP_of (by exact hMod (gy pO_db)) ?_
      simp (disch := first | (simp only [DS, reduceCtorEq]; done) | omega) only [WS, St.guard, St.put, evalO, reduceCtorEq, reduceIte, Nat.reduceAdd, Nat.reduceEqDiff, Int.cast_ofNat_Int, Int.reduceBEq, y3]
      refine WP_of (yD1 (D' := D.crash x.keep) rfl (yz_good pO_db) (fun G' hG' => by rw [hxk]; exact Crash_spec HD (by rw [zb]; exact hG') (by omega) (by omega) (by omega) vk)) ?_
      simp (disch := first | (simp only [DS, reduceCtorEq]; done) | omega) only [WS, St.guard, St.put, evalO, reduceCtorEq, reduceIte, Nat.reduceAdd, Nat.reduceEqDiff, y3]
      refine WP_of (yD2 (E' := (D.crash x.keep).sw) rfl (yz_good pO_db) (fun G' hG' => by rw [hxk]; exact refCrash_spec H.ref (by rw [zb]; exact hG') (by omega) (by omega) (by omega) vk)) ?_
      simp (disch := first | (simp only [DS, reduceCtorEq]; done) | omega) only [WS, St.guard, St.put, evalO, reduceCtorEq, reduceIte, Nat.reduceAdd, Nat.reduceEqDiff]
      have zc : Siz (D.crash x.keep) N := z.crash
      obtain ⟨D2, hD2⟩ : ∃ D2, D2 = (D.crash x.keep).start := ⟨_, rfl⟩
      obtain ⟨J2, hJ2⟩ : ∃ J2, J2 = openJ D2 frm n (epW (e + 1)) := ⟨_, rfl⟩
      refine WP_of (yD1 (D' := D2) rfl (yz_good pO_db) (fun G' hG' => by rw [hD2]; exact Start_spec HD (by rw [zc.b]; exact hG') (by rw [zc.l, zc.b]) (by rw [zc.a, zc.b]) (by rw [zc.b]; omega))) ?_
      simp (disch := first | (simp only [DS, reduceCtorEq]; done) | omega) only [WS, St.guard, St.put, evalO, reduceCtorEq, reduceIte, Nat.reduceAdd, Nat.reduceEqDiff]
      refine WP_of (yD2 (E' := D2.sw) rfl (yz_good pO_db) (fun G' hG' => by rw [hD2]; exact refStart_spec H.ref (by rw [zc.b]; exact hG') (by rw [zc.l, zc.b]) (by rw [zc.a, zc.b]) (by rw [zc.b]; omega))) ?_
      simp (disch := first | (simp only [DS, reduceCtorEq]; done) | omega) only [WS, St.guard, St.put, evalO, reduceCtorEq, reduceIte, Nat.reduceAdd, Nat.reduceEqDiff, epW_add, y0]
      refine WP_of (by exact hMod (gy pO_db)) ?_
      have z2 : Siz D2 N := by rw [hD2]; exact zc.start
      have hE2 : newE D2 (frm : Nat) (n : Nat) (epW (e + 1)) = 0 := newE_ok (by rw [hD2]; exact start_off) z2 n1 fN (by omega) (by omega)
      have db2 : DB (none : Option Blk) := DB.z
      have t2 : TurnOk N J2 := by rw [hJ2, hD2]; exact I'.t
      simp (disch := first | (simp only [DS, reduceCtorEq]; done) | omega) only [WS, St.guard, St.put, evalO, reduceCtorEq, reduceIte, Nat.reduceAdd, Nat.reduceEqDiff, Int.cast_ofNat_Int, Int.reduceBEq, WC_post]
      have gA : Good ⟨[], yl N D2 J D2.sw J (pO x.cells :: none :: List.replicate 9 none)⟩ := yl_good (goodL_opt (fun b hb => by rw [pO_db b hb]; rfl) (goodL_opt (fun b hb => by rw [db2 b hb]; rfl) trivial))
      have gB : Good ⟨[], yl N D2 J D2.sw J [pO x.cells, none, none, none, none, none, recB J2.recs, yO 18 J2, none, none, none]⟩ := yl_good (goodL_opt (fun b hb => by rw [pO_db b hb]; rfl) (goodL_opt (fun b hb => by rw [db2 b hb]; rfl) ⟨dBlk_good, yO_good (by omega) (by omega) trivial⟩))
      refine WP_of (h' := ⟨[], yl N D2 J D2.sw J [pO x.cells, none, none, none, none, none, recB J2.recs, yO 18 J2, none, none, none]⟩) (by rw [hJ2]; exact mOpen (P := dpos 0 (some N) false) (D := D2) (i := 18) (j := 19) rfl (dp0 (by rw [yl_len]; simp)) z2 N2 gA hE2 (by omega) rfl rfl HJ) ?_
      simp (disch := first | (simp only [DS, reduceCtorEq]; done) | omega) only [WS, St.guard, St.put, evalO, reduceCtorEq, reduceIte, Nat.reduceAdd, Nat.reduceEqDiff, WC_post]
      refine WP_of (h' := ⟨[], yl N D2 J D2.sw J [pO x.cells, none, none, none, none, none, recB J2.recs, yO 18 J2, recB J2.recs, yQ 20 J2, none]⟩) (by rw [hJ2] at gB ⊢; exact mROpen (P := dpos 4 (some N) false) (D := D2) (i := 20) (j := 21) rfl (dp4 (by rw [yl_len]; simp)) z2 N2 gB hE2 (by omega) rfl rfl HJ.toTakeLib H.blank H.ropen H.rrec (by omega)) ?_
      simp (disch := first | (simp only [DS, reduceCtorEq]; done) | omega) only [WS, St.guard, St.put, evalO, reduceCtorEq, reduceIte, Nat.reduceAdd, Nat.reduceEqDiff, WK_mv_normal]
      refine ⟨_, pMove4, ?_⟩
      have rj : AV.ren (mvLab MV4) (.ptr (.l 19) 9 0) = .ptr (.l 9) 9 0 := rfl
      have ry : AV.ren (mvLab MV4) (.ptr (.l 21) 8 0) = .ptr (.l 11) 8 0 := rfl
      simp only [List.map_cons, List.map_nil]
      simp (disch := first | (simp only [DS, reduceCtorEq]; done) | omega) only [WS, St.guard, St.put, evalO, reduceCtorEq, reduceIte, Nat.reduceAdd, Nat.reduceEqDiff, rj, ry, ren_val, Option.map_none, bne_self_eq_false, Int.reduceBNe, isNilV, Hp.isNil]
      rw [← hD2, ← hJ2] at I' ⊢
      refine WP_of (hal (X := pO x.cells :: none :: List.replicate 9 none) (D := D2) (J := J2) t2 (by exact yz_good pO_db)) ?_
      simp (disch := first | (simp only [DS, reduceCtorEq]; done) | omega) only [WS, St.guard, St.put, evalO, reduceCtorEq, reduceIte, Nat.reduceAdd, Nat.reduceEqDiff, vBin_add_i64]
      refine clear_fre (env := f_law08_JournalPlays_H0 (.v (.int .i64 (n : Nat))) (.v (.int .i64 (frm : Nat))) a (.ptr (.l 3) 5 0) (.ptr (.l 7) 5 0) (.v (u32 (epW (e + 1)))) (.ptr (.l 9) 9 0) (.ptr (.l 11) 8 0) (.v (.int .i64 ((i + 1 : Nat) : Int)))) (by simp only [clear_nil, List.foldl_cons, List.foldl_nil, Option.some.injEq, LS, reduceCtorEq, reduceIte, Nat.reduceAdd, ra] <;> rfl) (by rfl) (by simp only [f_law08_JournalPlays_H0, List.all_cons, List.all_nil, noRef_v, noRef_dead, noRef_own, noRef_ptr, noRef_nil, Bool.and_true, Bool.true_and, Bool.and_self, List.contains_cons, List.contains_nil, Bool.or_false, Nat.reduceBEq, Bool.not_false, na]) (by rfl)
    case inr.inr.inl =>
      rw [hst] at I' ⊢
      simp (disch := first | (simp only [DS, reduceCtorEq]; done) | omega) only [WS, St.guard, St.put, evalO, reduceCtorEq, reduceIte, Nat.reduceAdd, Nat.reduceEqDiff, Int.cast_ofNat_Int, Int.reduceBEq, y0]
      refine WP_of (by exact hMod (gy pO_db)) ?_
      simp (disch := first | (simp only [DS, reduceCtorEq]; done) | omega) only [WS, St.guard, St.put, evalO, reduceCtorEq, reduceIte, Nat.reduceAdd, Nat.reduceEqDiff, Int.cast_ofNat_Int, Int.reduceBEq, y3]
      refine WP_of (yD1 (D' := D.crash x.keep) rfl (yz_good pO_db) (fun G' hG' => by rw [hxk]; exact Crash_spec HD (by rw [zb]; exact hG') (by omega) (by omega) (by omega) vk)) ?_
      simp (disch := first | (simp only [DS, reduceCtorEq]; done) | omega) only [WS, St.guard, St.put, evalO, reduceCtorEq, reduceIte, Nat.reduceAdd, Nat.reduceEqDiff, y3]
      refine WP_of (yD2 (E' := (D.crash x.keep).sw) rfl (yz_good pO_db) (fun G' hG' => by rw [hxk]; exact refCrash_spec H.ref (by rw [zb]; exact hG') (by omega) (by omega) (by omega) vk)) ?_
      simp (disch := first | (simp only [DS, reduceCtorEq]; done) | omega) only [WS, St.guard, St.put, evalO, reduceCtorEq, reduceIte, Nat.reduceAdd, Nat.reduceEqDiff]
      have zc : Siz (D.crash x.keep) N := z.crash
      obtain ⟨D2, hD2⟩ : ∃ D2, D2 = (D.crash x.keep).start := ⟨_, rfl⟩
      obtain ⟨J2, hJ2⟩ : ∃ J2, J2 = newJ frm n (epW (e + 1)) := ⟨_, rfl⟩
      refine WP_of (yD1 (D' := D2) rfl (yz_good pO_db) (fun G' hG' => by rw [hD2]; exact Start_spec HD (by rw [zc.b]; exact hG') (by rw [zc.l, zc.b]) (by rw [zc.a, zc.b]) (by rw [zc.b]; omega))) ?_
      simp (disch := first | (simp only [DS, reduceCtorEq]; done) | omega) only [WS, St.guard, St.put, evalO, reduceCtorEq, reduceIte, Nat.reduceAdd, Nat.reduceEqDiff]
      refine WP_of (yD2 (E' := D2.sw) rfl (yz_good pO_db) (fun G' hG' => by rw [hD2]; exact refStart_spec H.ref (by rw [zc.b]; exact hG') (by rw [zc.l, zc.b]) (by rw [zc.a, zc.b]) (by rw [zc.b]; omega))) ?_
      simp (disch := first | (simp only [DS, reduceCtorEq]; done) | omega) only [WS, St.guard, St.put, evalO, reduceCtorEq, reduceIte, Nat.reduceAdd, Nat.reduceEqDiff, epW_add, y0]
      refine WP_of (by exact hMod (gy pO_db)) ?_
      have z2 : Siz D2 N := by rw [hD2]; exact zc.start
      have hE2 : newE D2 (frm : Nat) (n : Nat) (epW (e + 1)) = 0 := newE_ok (by rw [hD2]; exact start_off) z2 n1 fN (by omega) (by omega)
      have db2 : DB (none : Option Blk) := DB.z
      have t2 : TurnOk N J2 := by rw [hJ2]; exact I'.t
      simp (disch := first | (simp only [DS, reduceCtorEq]; done) | omega) only [WS, St.guard, St.put, evalO, reduceCtorEq, reduceIte, Nat.reduceAdd, Nat.reduceEqDiff, Int.cast_ofNat_Int, Int.reduceBEq, WC_post]
      have gA : Good ⟨[], yl N D2 J D2.sw J (pO x.cells :: none :: List.replicate 9 none)⟩ := yl_good (goodL_opt (fun b hb => by rw [pO_db b hb]; rfl) trivial)
      have gB : Good ⟨[], yl N D2 J D2.sw J [pO x.cells, none, recB J2.recs, yO 14 J2, none, none, none, none, none, none, none]⟩ := yl_good (goodL_opt (fun b hb => by rw [pO_db b hb]; rfl) ⟨dBlk_good, yO_good (by omega) (by omega) trivial⟩)
      refine WP_of (h' := ⟨[], yl N D2 J D2.sw J [pO x.cells, none, recB J2.recs, yO 14 J2, none, none, none, none, none, none, none]⟩) (by rw [hJ2]; exact mNew (P := dpos 0 (some N) false) (D := D2) (i := 14) (j := 15) rfl (dp0 (by rw [yl_len]; simp)) z2 N2 gA hE2 (by omega) rfl rfl HJ) ?_
      simp (disch := first | (simp only [DS, reduceCtorEq]; done) | omega) only [WS, St.guard, St.put, evalO, reduceCtorEq, reduceIte, Nat.reduceAdd, Nat.reduceEqDiff, WC_post]
      refine WP_of (h' := ⟨[], yl N D2 J D2.sw J [pO x.cells, none, recB J2.recs, yO 14 J2, recB J2.recs, yQ 16 J2, none, none, none, none, none]⟩) (by rw [hJ2] at gB ⊢; exact mBlank (P := dpos 4 (some N) false) (D := D2) (i := 16) (j := 17) rfl (dp4 (by rw [yl_len]; simp)) z2 N2 gB hE2 (by omega) rfl rfl H.blank) ?_
      simp (disch := first | (simp only [DS, reduceCtorEq]; done) | omega) only [WS, St.guard, St.put, evalO, reduceCtorEq, reduceIte, Nat.reduceAdd, Nat.reduceEqDiff, WK_mv_normal]
      refine ⟨_, pMove5, ?_⟩
      have rj : AV.ren (mvLab MV5) (.ptr (.l 15) 9 0) = .ptr (.l 9) 9 0 := rfl
      have ry : AV.ren (mvLab MV5) (.ptr (.l 17) 8 0) = .ptr (.l 11) 8 0 := rfl
      simp only [List.map_cons, List.map_nil]
      simp (disch := first | (simp only [DS, reduceCtorEq]; done) | omega) only [WS, St.guard, St.put, evalO, reduceCtorEq, reduceIte, Nat.reduceAdd, Nat.reduceEqDiff, rj, ry, ren_val, Option.map_none, bne_self_eq_false, Int.reduceBNe, isNilV, Hp.isNil]
      rw [← hD2, ← hJ2] at I' ⊢
      refine WP_of (hal (X := pO x.cells :: none :: List.replicate 9 none) (D := D2) (J := J2) t2 (by exact yz_good pO_db)) ?_
      simp (disch := first | (simp only [DS, reduceCtorEq]; done) | omega) only [WS, St.guard, St.put, evalO, reduceCtorEq, reduceIte, Nat.reduceAdd, Nat.reduceEqDiff, vBin_add_i64]
      refine clear_fre (env := f_law08_JournalPlays_H0 (.v (.int .i64 (n : Nat))) (.v (.int .i64 (frm : Nat))) a (.ptr (.l 3) 5 0) (.ptr (.l 7) 5 0) (.v (u32 (epW (e + 1)))) (.ptr (.l 9) 9 0) (.ptr (.l 11) 8 0) (.v (.int .i64 ((i + 1 : Nat) : Int)))) (by simp only [clear_nil, List.foldl_cons, List.foldl_nil, Option.some.injEq, LS, reduceCtorEq, reduceIte, Nat.reduceAdd, ra] <;> rfl) (by rfl) (by simp only [f_law08_JournalPlays_H0, List.all_cons, List.all_nil, noRef_v, noRef_dead, noRef_own, noRef_ptr, noRef_nil, Bool.and_true, Bool.true_and, Bool.and_self, List.contains_cons, List.contains_nil, Bool.or_false, Nat.reduceBEq, Bool.not_false, na]) (by rfl)
    case inr.inr.inr.inl =>
      rw [hst] at I' ⊢
      simp (disch := first | (simp only [DS, reduceCtorEq]; done) | omega) only [WS, St.guard, St.put, evalO, reduceCtorEq, reduceIte, Nat.reduceAdd, Nat.reduceEqDiff, Int.cast_ofNat_Int, Int.reduceBEq, y0]
      refine WP_of (by exact hMod (gy pO_db)) ?_
      have gg : ∀ {D E J K c}, DB c → Good ⟨[], yl N D J E K (pO x.cells :: c :: List.replicate 9 none)⟩ := fun hc => yl_good (goodL_opt (fun b hb => by rw [pO_db b hb]; rfl) (goodL_opt (fun b hb => by rw [hc b hb]; rfl) trivial))
      have al : ∀ {D E J K}, prim ⟨[], yl N D J E K (pO x.cells :: yZ)⟩ (.alloc 13 zeros64 []) [] = some (.ptr (.l 13) 64 0, ⟨[], yl N D J E K (pO x.cells :: some (dBlk (zs64.map byteAV) false false) :: List.replicate 9 none)⟩) := alloc_zeros rfl
      have sl : ∀ h : Hp, prim h (.sliceArr 64 1 false false false) [.ptr (.l 13) 64 0] = some (.own (.l 13) 64 0 64 1 (some 64), h) := fun h => sliceArr_all (by omega)
      obtain ⟨W, hW⟩ : ∃ W, W = some (dBlk ((handS x.b).1.map byteAV) false false) := ⟨_, rfl⟩
      have db2 : DB W := by rw [hW]; exact DB.d
      have hWr : W.map (Blk.ren (mvLab MV4)) = W := by rw [hW]; rfl
      have cp : ∀ {D E J K}, prim ⟨[], yl N D J E K (pO x.cells :: some (dBlk (zs64.map byteAV) false false) :: List.replicate 9 none)⟩ (.copy 1) [.own (.l 13) 64 0 64 1 (some 64), x.ba] = some (.v (.int .i64 (Nat.min x.b.length 64 : Nat)), ⟨[], yl N D J E K (pO x.cells :: W :: List.replicate 9 none)⟩) := by
        intro D E J K
        rw [hW]
        exact copy_cut (L := yl N D J E K (pO x.cells :: some (dBlk (zs64.map byteAV) false false) :: List.replicate 9 none)) (j := 13) rfl rfl (by omega) (vb _) (by omega)
      have l13 : ∀ {D E J K}, prim ⟨[], yl N D J E K (pO x.cells :: W :: List.replicate 9 none)⟩ (.load 64 true) [.ptr (.l 13) 64 0] = some (.agg ((handS x.b).1.map byteAV), ⟨[], yl N D J E K (pO x.cells :: W :: List.replicate 9 none)⟩) := by
        intro D E J K
        rw [hW]
        exact load_sec (L := yl N D J E K (pO x.cells :: some (dBlk ((handS x.b).1.map byteAV) false false) :: List.replicate 9 none)) (j := 13) rfl (handS x.b).2
      simp (disch := first | (simp only [DS, reduceCtorEq]; done) | omega) only [WS, St.guard, St.put, evalO, reduceCtorEq, reduceIte, Nat.reduceAdd, Nat.reduceEqDiff, Int.cast_ofNat_Int, Int.reduceBEq, al, sl, y2]
      refine WDP_good (by exact cp) (gg DB.d) (gg db2) rfl (by rw [hW]; rfl) ?_
      simp (disch := first | (simp only [DS, reduceCtorEq]; done) | omega) only [WS, St.guard, St.put, evalO, reduceCtorEq, reduceIte, Nat.reduceAdd, Nat.reduceEqDiff, y1, vBin_add_i64, bN1, eN']
      have hu := umod_lt (c := x.at') (n := N) (by omega)
      refine WDP_pv (by exact mod_op H.mod N rfl (by omega) (by omega) (gg db2)) (gg db2) ?_
      simp (disch := first | (simp only [DS, reduceCtorEq]; done) | omega) only [WS, St.guard, St.put, evalO, reduceCtorEq, reduceIte, Nat.reduceAdd, Nat.reduceEqDiff, l13]
      have hx3 : ∀ p, [AV.ptr (.l p) 5 0, .v (.int .i64 (umod x.at' N : Nat)), .agg ((handS x.b).1.map byteAV)].map (AV.ren (up 0)) = [.ptr (.o p) 5 0, .v (.int .i64 (umod x.at' N : Nat)), .agg ((handS x.b).1.map byteAV)] := fun p => by
        simp only [List.map_cons, List.map_nil, ren_sec]
        simp only [AV.ren, up, Nat.zero_add]
      have gl : goodL 0 12 (pO x.cells :: W :: List.replicate 9 none) := goodL_opt (fun b hb => by rw [pO_db b hb]; rfl) (goodL_opt (fun b hb => by rw [db2 b hb]; rfl) trivial)
      refine WDP_of (yD1 (D' := D.write (umod x.at' N : Nat) (handS x.b)) rfl gl (fun G' hG' => by rw [hx3]; exact Write_spec HD (by rw [zb]; exact hG') (by omega) zm)) (gg db2) (gg db2) rfl rfl ?_
      simp (disch := first | (simp only [DS, reduceCtorEq]; done) | omega) only [WS, St.guard, St.put, evalO, reduceCtorEq, reduceIte, Nat.reduceAdd, Nat.reduceEqDiff]
      refine (WDP_loadU (by decide) (gg db2)).2 ?_
      simp (disch := first | (simp only [DS, reduceCtorEq]; done) | omega) only [WS, St.guard, St.put, evalO, reduceCtorEq, reduceIte, Nat.reduceAdd, Nat.reduceEqDiff, y1, vBin_add_i64, bN1, eN']
      refine WDP_pv (by exact mod_op H.mod N rfl (by omega) (by omega) (gg db2)) (gg db2) ?_
      simp (disch := first | (simp only [DS, reduceCtorEq]; done) | omega) only [WS, St.guard, St.put, evalO, reduceCtorEq, reduceIte, Nat.reduceAdd, Nat.reduceEqDiff]
      refine (WDP_loadU (by decide) (gg db2)).2 ?_
      simp (disch := first | (simp only [DS, reduceCtorEq]; done) | omega) only [WS, St.guard, St.put, evalO, reduceCtorEq, reduceIte, Nat.reduceAdd, Nat.reduceEqDiff, l13]
      have sp : ∀ G', (dpos 4 (some N) false).Ok G'.length N → Ev prog (.call "(*haberdash/haberdashref06.Disk).Write" [.ptr (.o (dpos 4 (some N) false).p) 5 0, .v (.int .i64 (umod x.at' N : Nat)), .agg ((handS x.b).1.map byteAV)] (dset G' (dpos 4 (some N) false) D.sw)) (.ret (.v (.int .i64 (writeE D (umod x.at' N : Nat)))) (dset G' (dpos 4 (some N) false) (D.write (umod x.at' N : Nat) (handS x.b)).sw)) := fun G' hG' => by
        have := refWrite_spec H.ref (D := D.sw) (G := G') (P := dpos 4 (some N) false) (by show (dpos 4 (some N) false).Ok G'.length D.b.length; rw [zb]; exact hG') (by show D.l.length = D.b.length; omega) zm (at' := (umod x.at' N : Nat)) (s := handS x.b)
        rw [rwrite_sw, rwriteE_sw] at this
        exact this
      refine WDP_of (yD2 (E' := (D.write (umod x.at' N : Nat) (handS x.b)).sw) rfl gl (fun G' hG' => by rw [hx3]; exact sp G' hG')) (gg db2) (gg db2) rfl rfl ?_
      simp (disch := first | (simp only [DS, reduceCtorEq]; done) | omega) only [WS, St.guard, St.put, evalO, reduceCtorEq, reduceIte, Nat.reduceAdd, Nat.reduceEqDiff, bne_self_eq_false]
      have zc : Siz (D.write (umod x.at' N : Nat) (handS x.b)) N := z.write
      have g13 : ∀ {D J}, Good ⟨[], yl N D J D.sw J (pO x.cells :: W :: List.replicate 9 none)⟩ := gg db2
      obtain ⟨D2, hD2⟩ : ∃ D2, D2 = (D.write ((umod x.at' N : Nat) : Int) (handS x.b)).start := ⟨_, rfl⟩
      obtain ⟨J2, hJ2⟩ : ∃ J2, J2 = openJ D2 frm n (epW (e + 1)) := ⟨_, rfl⟩
      refine WP_of (yD1 (D' := D2) rfl (goodL_opt (fun b hb => by rw [pO_db b hb]; rfl) (goodL_opt (fun b hb => by rw [db2 b hb]; rfl) trivial)) (fun G' hG' => by rw [hD2]; exact Start_spec HD (by rw [zc.b]; exact hG') (by rw [zc.l, zc.b]) (by rw [zc.a, zc.b]) (by rw [zc.b]; omega))) ?_
      simp (disch := first | (simp only [DS, reduceCtorEq]; done) | omega) only [WS, St.guard, St.put, evalO, reduceCtorEq, reduceIte, Nat.reduceAdd, Nat.reduceEqDiff]
      refine WP_of (yD2 (E' := D2.sw) rfl (goodL_opt (fun b hb => by rw [pO_db b hb]; rfl) (goodL_opt (fun b hb => by rw [db2 b hb]; rfl) trivial)) (fun G' hG' => by rw [hD2]; exact refStart_spec H.ref (by rw [zc.b]; exact hG') (by rw [zc.l, zc.b]) (by rw [zc.a, zc.b]) (by rw [zc.b]; omega))) ?_
      simp (disch := first | (simp only [DS, reduceCtorEq]; done) | omega) only [WS, St.guard, St.put, evalO, reduceCtorEq, reduceIte, Nat.reduceAdd, Nat.reduceEqDiff, epW_add, y0]
      refine WP_of (by exact hMod g13) ?_
      have z2 : Siz D2 N := by rw [hD2]; exact zc.start
      have hE2 : newE D2 (frm : Nat) (n : Nat) (epW (e + 1)) = 0 := newE_ok (by rw [hD2]; exact start_off) z2 n1 fN (by omega) (by omega)
      have t2 : TurnOk N J2 := by rw [hJ2, hD2]; exact I'.t
      simp (disch := first | (simp only [DS, reduceCtorEq]; done) | omega) only [WS, St.guard, St.put, evalO, reduceCtorEq, reduceIte, Nat.reduceAdd, Nat.reduceEqDiff, Int.cast_ofNat_Int, Int.reduceBEq, WC_post]
      have gA : Good ⟨[], yl N D2 J D2.sw J (pO x.cells :: W :: List.replicate 9 none)⟩ := yl_good (goodL_opt (fun b hb => by rw [pO_db b hb]; rfl) (goodL_opt (fun b hb => by rw [db2 b hb]; rfl) trivial))
      have gB : Good ⟨[], yl N D2 J D2.sw J [pO x.cells, W, none, none, none, none, recB J2.recs, yO 18 J2, none, none, none]⟩ := yl_good (goodL_opt (fun b hb => by rw [pO_db b hb]; rfl) (goodL_opt (fun b hb => by rw [db2 b hb]; rfl) ⟨dBlk_good, yO_good (by omega) (by omega) trivial⟩))
      refine WP_of (h' := ⟨[], yl N D2 J D2.sw J [pO x.cells, W, none, none, none, none, recB J2.recs, yO 18 J2, none, none, none]⟩) (by rw [hJ2]; exact mOpen (P := dpos 0 (some N) false) (D := D2) (i := 18) (j := 19) rfl (dp0 (by rw [yl_len]; simp)) z2 N2 gA hE2 (by omega) rfl rfl HJ) ?_
      simp (disch := first | (simp only [DS, reduceCtorEq]; done) | omega) only [WS, St.guard, St.put, evalO, reduceCtorEq, reduceIte, Nat.reduceAdd, Nat.reduceEqDiff, WC_post]
      refine WP_of (h' := ⟨[], yl N D2 J D2.sw J [pO x.cells, W, none, none, none, none, recB J2.recs, yO 18 J2, recB J2.recs, yQ 20 J2, none]⟩) (by rw [hJ2] at gB ⊢; exact mROpen (P := dpos 4 (some N) false) (D := D2) (i := 20) (j := 21) rfl (dp4 (by rw [yl_len]; simp)) z2 N2 gB hE2 (by omega) rfl rfl HJ.toTakeLib H.blank H.ropen H.rrec (by omega)) ?_
      simp (disch := first | (simp only [DS, reduceCtorEq]; done) | omega) only [WS, St.guard, St.put, evalO, reduceCtorEq, reduceIte, Nat.reduceAdd, Nat.reduceEqDiff, WK_mv_normal]
      refine ⟨_, pMove4, ?_⟩
      have rj : AV.ren (mvLab MV4) (.ptr (.l 19) 9 0) = .ptr (.l 9) 9 0 := rfl
      have ry : AV.ren (mvLab MV4) (.ptr (.l 21) 8 0) = .ptr (.l 11) 8 0 := rfl
      simp only [List.map_cons, List.map_nil]
      simp (disch := first | (simp only [DS, reduceCtorEq]; done) | omega) only [WS, St.guard, St.put, evalO, reduceCtorEq, reduceIte, Nat.reduceAdd, Nat.reduceEqDiff, rj, ry, ren_val, hWr, bne_self_eq_false, Int.reduceBNe, isNilV, Hp.isNil]
      rw [← hD2, ← hJ2] at I' ⊢
      refine WP_of (hal (X := pO x.cells :: W :: List.replicate 9 none) (D := D2) (J := J2) t2 (by exact gl)) ?_
      simp (disch := first | (simp only [DS, reduceCtorEq]; done) | omega) only [WS, St.guard, St.put, evalO, reduceCtorEq, reduceIte, Nat.reduceAdd, Nat.reduceEqDiff, vBin_add_i64]
      refine clear_fre (env := f_law08_JournalPlays_H0 (.v (.int .i64 (n : Nat))) (.v (.int .i64 (frm : Nat))) a (.ptr (.l 3) 5 0) (.ptr (.l 7) 5 0) (.v (u32 (epW (e + 1)))) (.ptr (.l 9) 9 0) (.ptr (.l 11) 8 0) (.v (.int .i64 ((i + 1 : Nat) : Int)))) (by simp only [clear_nil, List.foldl_cons, List.foldl_nil, Option.some.injEq, LS, reduceCtorEq, reduceIte, Nat.reduceAdd, ra] <;> rfl) (by rfl) (by simp only [f_law08_JournalPlays_H0, List.all_cons, List.all_nil, noRef_v, noRef_dead, noRef_own, noRef_ptr, noRef_nil, Bool.and_true, Bool.true_and, Bool.and_self, List.contains_cons, List.contains_nil, Bool.or_false, Nat.reduceBEq, Bool.not_false, na]) (by rfl)
    case inr.inr.inr.inr =>
      have hroom : room = 140737488355328 := rfl
      have n3 : ¬ (m : Int) = 3 := by omega
      have n4 : ¬ (m : Int) = 4 := by omega
      have n5 : ¬ (m : Int) = 5 := by omega
      have n6 : ¬ (m : Int) = 6 := by omega
      have b3 : ((m : Int) == 3) = false := beq_eq_false_iff_ne.2 n3
      have b4 : ((m : Int) == 4) = false := beq_eq_false_iff_ne.2 n4
      have b5 : ((m : Int) == 5) = false := beq_eq_false_iff_ne.2 n5
      have b6 : ((m : Int) == 6) = false := beq_eq_false_iff_ne.2 n6
      have hs' : plSt n frm N x (D, J, e) = ((J.add D x.b).2.1, (J.add D x.b).2.2, e) := by rw [hst]; rcases hm with rfl | rfl | rfl <;> rfl
      rw [hs'] at I' ⊢
      clear hs'
      simp (disch := first | (simp only [DS, reduceCtorEq]; done) | omega) only [WS, St.guard, St.put, evalO, reduceCtorEq, reduceIte, Nat.reduceAdd, Nat.reduceEqDiff, Int.cast_ofNat_Int, b3, b4, b5, b6, y2]
      obtain ⟨W, hW⟩ : ∃ W, W = some (dBlk ((x.b ++ [71, 71, 71]).map byteAV) false false) := ⟨_, rfl⟩
      have dw : DB W := by rw [hW]; exact DB.d
      obtain ⟨R, hR⟩ : ∃ R, R = [none, none, none, none, none, none, none, none, none, W] := ⟨_, rfl⟩
      have hRd : ∀ k B, DB B → 12 ≤ k → goodL 0 k (B :: R) := fun k B hB hk => by
        rw [hR]
        exact goodL_opt (fun b hb => by rw [hB b hb]; rfl) (show goodL 0 (k + 10) [W] from goodL_opt (fun b hb => by rw [dw b hb]; rfl) trivial)
      have gr : ∀ {D E J K B}, DB B → Good ⟨[], yl N D J E K (B :: R)⟩ := fun hB => yl_good (hRd 12 _ hB (by omega))
      have own : Ev prog (.op (.call "haberdash/haberdashhelp.Own[byte]" [22]) [x.ba, .v (.int .u8 71)] ⟨[], yl N D J D.sw J (pO x.cells :: yZ)⟩) (.val (.own (.l 22) (x.b.length + 3) 0 x.b.length 1 (some (x.b.length + 3))) ⟨[], yl N D J D.sw J (pO x.cells :: R)⟩) := by
        have e := op_news (prog := prog) (f := "haberdash/haberdashhelp.Own[byte]") (xs := [x.ba, .v (.int .u8 71)]) (sites := [22]) (Bs := [W]) (h := ⟨[], yl N D J D.sw J (pO x.cells :: yZ)⟩)
          (r := .own (.o (⟨[], yl N D J D.sw J (pO x.cells :: yZ)⟩ : Hp).into.length) (x.b.length + 3) 0 x.b.length 1 (some (x.b.length + 3))) (by
            have hx : [x.ba, AV.v (.int .u8 71)].map (AV.ren (up 0)) = [x.ba, byteAV 71] := by
              simp only [List.map_cons, List.map_nil, view_plain (vb ⟨[], []⟩)]; rfl
            show Ev prog (.call _ ([x.ba, AV.v (.int .u8 71)].map (AV.ren (up 0))) _) _
            rw [hx, hW]
            exact own8 H.toOwnB8 71 (fun L => vb _) (by omega)) (data1 dw) rfl (by simp) rfl (gy pO_db) ren_own1
        rw [hR]
        exact e
      refine WP_of (by exact own) ?_
      simp (disch := first | (simp only [DS, reduceCtorEq]; done) | omega) only [WS, St.guard, St.put, evalO, reduceCtorEq, reduceIte, Nat.reduceAdd, Nat.reduceEqDiff]
      have hin22 : ∀ {D J E K B}, (⟨[], yl N D J E K (B :: R)⟩ : Hp).into[22]? = some (some (dBlk ((x.b ++ [71, 71, 71]).map byteAV) false false)) := by
        intro D J E K B
        rw [hR, hW]; rfl
      have A1 : Arg (⟨[], yl N D J D.sw J (none :: R)⟩ : Hp).into (dpos 0 (some N) false) 8 9 ((AV.own (.l 22) (x.b.length + 3) 0 x.b.length 1 (some (x.b.length + 3))).ren (up 0)) x.b := by
        exact arg_pre (P := dpos 0 (some N) false) (q := 8) (p := 9) (k := 22) (G := (⟨[], yl N D J D.sw J (none :: R)⟩ : Hp).into) (b := x.b) (r := [71, 71, 71]) (c := x.b.length + 3) (by refine ⟨?_, ?_, ?_, ?_, ?_, ?_⟩ <;> simp [dpos]) hin22 (by omega)
      have tf := t.f
      have ev1 := yAdd HJ z N2 (hRd 12 _ DB.z (by omega)) A1 t.ep (by omega) t.u t.r (by omega)
      refine WDP_12 (by exact ev1) rfl (gr pO_db) ?_
      simp (disch := first | (simp only [DS, reduceCtorEq]; done) | omega) only [WS, St.guard, St.put, evalO, reduceCtorEq, reduceIte, Nat.reduceAdd, Nat.reduceEqDiff]
      have y2' : ∀ {D E J K}, prim ⟨[], yl N D J E K (pO x.cells :: R)⟩ (.load 1 false) [.ptr (.l 12) 4 2] = some (x.ba, ⟨[], yl N D J E K (pO x.cells :: R)⟩) := yE_i (by omega) cl rfl
      simp (disch := first | (simp only [DS, reduceCtorEq]; done) | omega) only [WS, St.guard, St.put, evalO, reduceCtorEq, reduceIte, Nat.reduceAdd, Nat.reduceEqDiff, WDP_loadAt, y2']
      have ev2 : ∀ {D' J'}, Ev prog (.op (.call "(*haberdash/haberdashref06.Journal).Add" []) [.ptr (.l 11) 8 0, x.ba] ⟨[], yl N D' J' D.sw J (pO x.cells :: R)⟩) (.val (.v (.int .i64 (J.add D x.b).1)) ⟨[], yl N D' J' (J.add D x.b).2.1.sw (J.add D x.b).2.2 (pO x.cells :: R)⟩) := fun {D' J'} =>
        yRAdd H.refJ z (by omega) N2 (hRd 12 _ pO_db (by omega)) (by rw [view_plain (vb ⟨[], []⟩)]; exact arg_any vb x.nb) t.ep (by omega) t.u t.r (by omega)
      refine WDP_ld (by exact ev2) (gr pO_db) (by simp only [yl_len]) ?_
      obtain ⟨q, hq⟩ : ∃ q, q = J.add D x.b := ⟨_, rfl⟩
      rw [← hq] at I' ⊢
      simp (disch := first | (simp only [DS, reduceCtorEq]; done) | omega) only [WS, St.guard, St.put, evalO, reduceCtorEq, reduceIte, Nat.reduceAdd, Nat.reduceEqDiff, bne_self_eq_false, WDP_loadAt, y2']
      refine WDP_pv (by
        refine op_turn ⟨[], yl N q.2.1 q.2.2 q.2.1.sw q.2.2 (pO x.cells :: R)⟩ ?_ rfl rfl rfl (gr pO_db) (gr pO_db)
        have hx : [AV.own (.l 22) (x.b.length + 3) 0 x.b.length 1 (some (x.b.length + 3)), x.ba, .v (.int .u8 71)].map (AV.ren (up 0)) = [.own (.o 22) (x.b.length + 3) 0 x.b.length 1 (some (x.b.length + 3)), x.ba, byteAV 71] := by
          simp only [List.map_cons, List.map_nil, view_plain (vb ⟨[], []⟩)]; rfl
        show Ev prog (.call _ (List.map (AV.ren (up 0)) _) _) _
        rw [hx]
        exact kept8 H.toOwnB8 71 hin22 (fun L => vb _) (by omega)) (gr pO_db) ?_
      simp (disch := first | (simp only [DS, reduceCtorEq]; done) | omega) only [WS, St.guard, St.put, evalO, reduceCtorEq, reduceIte, Nat.reduceAdd, Nat.reduceEqDiff]
      refine WP_of (hal (X := pO x.cells :: R) I'.t (hRd 12 _ pO_db (by omega))) ?_
      simp (disch := first | (simp only [DS, reduceCtorEq]; done) | omega) only [WS, St.guard, St.put, evalO, reduceCtorEq, reduceIte, Nat.reduceAdd, Nat.reduceEqDiff, vBin_add_i64]
      rw [hR]
      exact clear_fre (by simp only [clear_nil, List.foldl_cons, List.foldl_nil, Option.some.injEq, LS, reduceCtorEq, reduceIte, Nat.reduceAdd] <;> rfl) (by rfl) (by simp only [f_law08_JournalPlays_H0, List.all_cons, List.all_nil, noRef_v, noRef_dead, noRef_own, noRef_ptr, noRef_nil, Bool.and_true, Bool.true_and, Bool.and_self, List.contains_cons, List.contains_nil, Bool.or_false, Nat.reduceBEq, Bool.not_false, na]) (by rfl)
  · have hend : (¬ ((min xs.length 40 : Nat) : Int) < (xs.length : Int)) ∨ (((min xs.length 40 : Nat) : Int) < (xs.length : Int) ∧ ¬ ((min xs.length 40 : Nat) : Int) < 40) := by omega
    generalize plN n frm N xs (min xs.length 40) = q at *
    generalize min xs.length 40 = m at *
    rcases hend with q | ⟨q, q2⟩
    case' inl => simp (disch := first | (simp only [DS, reduceCtorEq]; done) | omega) only [f_law08_JournalPlays_L0, f_law08_JournalPlays_H0, WS, St.guard, St.put, evalO, reduceCtorEq, reduceIte, Nat.reduceAdd, Nat.reduceEqDiff, (va _).lenSlice, goInt, q, decide_false]
    case' inr => simp (disch := first | (simp only [DS, reduceCtorEq]; done) | omega) only [f_law08_JournalPlays_L0, f_law08_JournalPlays_H0, WS, St.guard, St.put, evalO, reduceCtorEq, reduceIte, Nat.reduceAdd, Nat.reduceEqDiff, (va _).lenSlice, goInt, q, q2, decide_false, decide_true]
    all_goals
      simp (disch := first | (simp only [DS, reduceCtorEq]; done) | omega) only [WS, St.guard, St.put, evalO, reduceCtorEq, reduceIte, Nat.reduceAdd, Nat.reduceEqDiff, fin_tmp, leave_v]
      simp
end Go.AM
