import Derived.Test.YtdcnjckkcfoppaaVaultB
import Derived.Test.YtdcnjckkcfoppaaJourD
import Derived.Test.YtdcnjckkcfoppaaLawJour
set_option linter.unusedVariables false
set_option linter.unusedSimpArgs false
namespace Go.AM
variable {prog : String → Option IFn}
variable {G L M : List (Option Blk)} {P : DPos} {D : DskD} {n q p p0 pv i j s0 s1 s2 : Nat} {B : Option Blk} {cs : List AV} {J J0 J1 : JD} {V : VD}
def bB (b : Txt) : Option Blk := if b = [] then some (dBlk [byteAV 1] false false) else some (dBlk ((1 :: b).map byteAV) true false)
theorem LOk.set (h : LOk L P q p n) {k : Nat} {X : Option Blk} : LOk (L.set k X) P q p n := by
  have e : (L.set k X).length = L.length := List.length_set
  exact ⟨by rw [e]; exact h.d, h.qp, by rw [e]; exact h.pg, h.pp, h.fq, h.fp⟩
end Go.AM
namespace Go.AM
variable {prog : String → Option IFn}
variable {G L M : List (Option Blk)} {P : DPos} {D : DskD} {n q p p0 pv i j s0 s1 s2 : Nat} {B : Option Blk} {cs : List AV} {J J0 J1 : JD} {V : VD}
theorem op_same {f xs} {x : Value} {h : Hp} (hg : Good h) (he : Ev prog (.call f (xs.map (AV.ren (up h.G.length))) h.into) (.ret (.v x) h.into)) : Ev prog (.op (.call f []) xs h) (.val (.v x) h) :=
  op_turn h he rfl rfl rfl hg hg
end Go.AM
namespace Go.AM
variable {D : DskD} {n : Nat} {J : JD} {V : VD}
theorem open_new {frm nn : Nat} {ep : BitVec 32} (h : frm + nn ≤ n) : openJ (newD n) frm nn ep = newJ frm nn ep := by
  have ht : (newJ frm nn ep).take (newD n) = (false, newJ frm nn ep) := by
    unfold JD.take
    show tkF (newD n) (newJ frm nn ep) (nn - 0 + 1) 0 [] ep = _
    unfold tkF
    rw [lvNext_zero (by
      by_cases h0 : nn = 0
      · exact .inr (by show nn ≤ 0; omega)
      · exact .inl (newD_b (by show frm + 0 < n; omega)))]
    rfl
  unfold openJ
  show ({ (if ((newJ frm nn ep).take (newD n)).1 then _ else ((newJ frm nn ep).take (newD n)).2) with ep := ep } : JD) = _
  rw [ht]
  rfl
theorem mark_zero : markS zsec = 0#32 := by
  show maxU (get4 zs64 0) (get4 zs64 60) = 0#32
  decide
theorem gr_new : ∀ i, grF (newD n).b i = 0#32
  | 0 => rfl
  | i + 1 => by
    unfold grF
    rw [gr_new i]
    have : secAt (newD n).b (i : Nat) = zsec := by
      unfold secAt newD
      rw [List.getD_eq_getElem?_getD, List.getElem?_replicate]
      split <;> rfl
    rw [this, mark_zero]
    rfl
theorem newD_len : (newD n).b.length = n := by simp [newD]
theorem ep_new : vEp (newD n) = 1#32 := by unfold vEp; rw [gr_new]; rfl
theorem openEr_new (h : 4 ≤ n) : openEr (newD n) = 0 := by
  unfold openEr
  rw [newD_len, if_neg (by omega), gr_new]
  rfl
theorem openV_new (h : 4 ≤ n) : openV (newD n) = ((bgJ (newD n) 0 (n / 2) 1#32 []).2.1, (bgJ (newD n) 0 (n / 2) 1#32 []).2.2, ⟨0, 1#32, false⟩) := by
  have h0 : vJ0 (newD n) = newJ 0 (n / 2) 1#32 := by unfold vJ0; rw [ep_new, newD_len]; exact open_new (by omega)
  have h1 : vJ1 (newD n) = newJ (n / 2) (n / 2) 1#32 := by unfold vJ1; rw [ep_new, newD_len]; exact open_new (by omega)
  have hh : vHalf (newD n) = 0 := by unfold vHalf; rw [h0, h1]; rfl
  unfold openV
  rw [if_pos ⟨by rw [h0]; rfl, hh⟩, ep_new, newD_len]
theorem bg_live {frm nn : Nat} {ep : BitVec 32} {b : Txt} (hl : Live D) (z : Siz D n) (h0 : 0 < n) (hb : b.length < 400000) (hfit : needN (1 + b.length) ≤ nn) (hfn : frm + nn ≤ n) :
    ∃ D', bgJ D frm nn ep b = (0, D', (newJ frm nn ep).note (1 :: b) (needN (1 + b.length))) ∧ Live D' ∧ Siz D' n := by
  have e : (1 :: b : Txt).length = 1 + b.length := by simp; omega
  obtain ⟨D', e1, e2, e3⟩ := add_live (J := newJ frm nn ep) (b := 1 :: b) rfl hl z h0 (by omega) (by omega) (by rw [e]; show 0 + needN (1 + b.length) ≤ nn; omega) hfn
  rw [e] at e1
  exact ⟨D', e1, e2, e3⟩
structure FullInv (n : Nat) (D : DskD) (J : JD) (V : VD) (u c : Nat) : Prop where
  live : Live D
  z : Siz D n
  dead : J.dead = false
  vd : V = ⟨0, 1#32, false⟩
  jn : J.n = n / 2
  frm : J.frm = 0
  ep : J.ep = 1#32
  used : J.used = u
  le : u ≤ n / 2
  cnt : J.recs.length = c + 1
  cle : c + 1 ≤ u
  recs : ∀ b ∈ J.recs, b ≠ [] ∧ b.length ≤ 200
theorem full_new (h : 4 ≤ n) : (bgJ (newD n) 0 (n / 2) 1#32 []).1 = 0 ∧ FullInv n (openV (newD n)).1 (openV (newD n)).2.1 (openV (newD n)).2.2 1 0 := by
  obtain ⟨D', e, l, z⟩ := bg_live (frm := 0) (nn := n / 2) (ep := 1#32) (b := []) (D := newD n) newD_live .new (by omega) (by simp) (by show needN 1 ≤ _; unfold needN; omega) (by omega)
  rw [openV_new h, e]
  refine ⟨rfl, l, z, rfl, rfl, rfl, rfl, rfl, rfl, by omega, rfl, Nat.le_refl _, ?_⟩
  intro b hb
  have : b ∈ [([1] : Txt)] := hb
  simp only [List.mem_singleton] at this
  subst this
  exact ⟨by simp, by simp⟩
theorem full_step {used cnt : Nat} {b : Txt} (h : FullInv n D J V used cnt) (h4 : 4 ≤ n) (h1 : 1 ≤ b.length) (h2 : b.length ≤ 200) :
    (used + needN b.length ≤ n / 2 → (V.add D J b).1 = 0 ∧ FullInv n (V.add D J b).2.1 (V.add D J b).2.2.1 (V.add D J b).2.2.2 (used + needN b.length) (cnt + 1)) ∧
    (n / 2 < used + needN b.length → V.add D J b = (6, D, J, V)) := by
  have hV := h.vd
  have hp := needN_pos h1
  refine ⟨fun hf => ?_, fun hf => ?_⟩
  · obtain ⟨D', e, l', z'⟩ := add_live (J := J) (b := b) h.dead h.live h.z (by omega) (by omega) (by omega) (by rw [h.jn, h.used]; exact hf) (by rw [h.frm, h.jn]; omega)
    unfold VD.add
    rw [hV, if_neg (by simp), e]
    refine ⟨rfl, l', z', h.dead, rfl, h.jn, h.frm, h.ep, ?_, hf, ?_, ?_, ?_⟩
    · show J.used + needN b.length = used + needN b.length; rw [h.used]
    · show (J.recs ++ [b]).length = _; rw [List.length_append, h.cnt]; rfl
    · have := h.cle; omega
    · intro x hb
      have hb' : x ∈ J.recs ++ [b] := hb
      rcases List.mem_append.1 hb' with hb' | hb'
      · exact h.recs x hb'
      · simp only [List.mem_singleton] at hb'
        subst hb'
        exact ⟨by intro h3; rw [h3] at h1; simp at h1, by omega⟩
  · have e := add_full (J := J) (b := b) h.dead h.live (D := D) (by omega) (by omega) (by rw [h.jn, h.used]; exact hf)
    unfold VD.add
    rw [hV, if_neg (by simp), e]
    rfl
end Go.AM
namespace Go.AM
variable {prog : String → Option IFn}
variable {G L : List (Option Blk)} {P : DPos} {D : DskD} {n q p pv : Nat} {B : Option Blk} {cs : List AV} {J : JD} {V : VD}
structure Law9 (prog : String → Option IFn) : Prop extends VaultLib prog where
  awake9 : prog "haberdash/haberdashlaw09.awake" = some f_law09_awake
  mod : prog "haberdash/haberdashplay.Mod" = some f_play_Mod
theorem lok1 {k q p : Nat} {c : Option Nat} {o : Bool} {X : List (Option Blk)} (hc : ∀ x, c = some x → k ≤ x) (h3 : 3 < q) (hqp : q < p) (h : p < X.length) : LOk X (dpos 0 c o) q p k :=
  ⟨dpos_ok (by omega) hc, hqp, h, by show 3 < p; omega, fun k hk => by simp only [dpos, List.mem_cons, List.not_mem_nil, or_false] at hk; omega, fun k hk => by simp only [dpos, List.mem_cons, List.not_mem_nil, or_false] at hk; omega⟩
theorem lvok1 {k q p pv : Nat} {c : Option Nat} {o : Bool} {X : List (Option Blk)} (hc : ∀ x, c = some x → k ≤ x) (h3 : 3 < q) (hqp : q < p) (hp : p < pv) (h : pv < X.length) : LVOk X (dpos 0 c o) q p pv k :=
  ⟨lok1 hc h3 hqp (by omega), h, hp, by simp only [dpos]; omega, by simp only [dpos]; omega, by simp only [dpos]; omega, by simp only [dpos]; omega, by omega, by omega⟩
theorem argV (h : LVOk L P q p pv n) {k : Nat} {b : Txt} {o : Bool} {cap : Option Nat} (hk : L[k]? = some (some (dBlk (b.map byteAV) o false))) (hf : Off P q p k) (hp : k ≠ pv) (hc : ∀ c, cap = some c → b.length ≤ c) {X : Option Blk} :
    Arg ((⟨G, L⟩ : Hp).into.set (G.length + pv) X) (P.sh G.length) (G.length + q) (G.length + p) (.own (.o (G.length + k)) b.length 0 b.length 1 cap) b := by
  obtain ⟨f0, f1, f2, f3, f4, f5⟩ := hf
  refine arg_blk (X := dBlk (b.map byteAV) o false) ⟨?_, ?_, ?_, ?_, by omega, by omega⟩ ?_ rfl rfl hc
  · show G.length + k ≠ G.length + P.q0; omega
  · show G.length + k ≠ G.length + P.q1; omega
  · show G.length + k ≠ G.length + P.q2; omega
  · show G.length + k ≠ G.length + P.p; omega
  · rw [List.getElem?_set, if_neg (by omega)]; exact into_at hk rfl
set_option maxHeartbeats 1000000 in
theorem awake9_spec (H : Law9 prog) {G : List (Option Blk)} : Ev prog (.call "haberdash/haberdashlaw09.awake" [] G) (.ret (.v (.bool true)) G) := by
  refine call_of_fin H.awake9 ?_
  have HV := H.toVaultLib
  have HD := HV.toDiskLib
  simp only [f_law09_awake_B, enter, List.length_cons, List.length_nil, List.replicate, Nat.reduceAdd, Nat.reduceSub, List.cons_append, List.nil_append]
  have D9 : Dat (List.replicate 9 none) := by intro B hB b e; rw [List.eq_of_mem_replicate hB] at e; cases e
  simp (disch := first | (simp only [DS, reduceCtorEq]; done) | omega) only [WS, St.guard, St.put, evalO, reduceCtorEq, reduceIte, Nat.reduceAdd, Nat.reduceEqDiff]
  refine WP_of (h' := ⟨G, lset (List.replicate 9 none) (dpos 0 (some 8) false) (newD 8)⟩) (by exact op_dsk (D := newD 8) (R := fun a => .tup [a, .v (.int .i64 0)]) (fun ρ a => rfl) (New_spec HD (N := 8) (by omega) (by omega)) (by decide) rfl rfl rfl rfl (dat_good D9)) ?_
  simp (disch := first | (simp only [DS, reduceCtorEq]; done) | omega) only [WS, St.guard, St.put, evalO, reduceCtorEq, reduceIte, Nat.reduceAdd, Nat.reduceEqDiff]
  obtain ⟨b0, I⟩ := full_new (n := 8) (by omega)
  have lk : ∀ X : List (Option Blk), 6 < X.length → LVOk X (dpos 0 (some 8) false) 4 5 6 8 := fun X hX => lvok1 le_some (by omega) (by omega) (by omega) hX
  have e8 : (newD 8).b.length = 8 := rfl
  refine WP_of (by exact tOpen HV (P := dpos 0 (some 8) false) (q := 4) (p := 5) (pv := 6) (D := newD 8) (lk _ (by simp)) (dat_good D9) .new (by rw [e8]; omega) (openEr_new (by omega)) (by rw [ep_new]; exact b0) rfl rfl rfl) ?_
  generalize openV (newD 8) = W at *
  obtain ⟨D, J, V⟩ := W
  simp only at I
  simp (disch := first | (simp only [DS, reduceCtorEq]; done) | omega) only [WS, St.guard, St.put, evalO, reduceCtorEq, reduceIte, Nat.reduceAdd, Nat.reduceEqDiff]
  have D7 : Dat [none, none, none, none, none, none, none, some (dBlk ([97].map byteAV) false false), none] := by
    intro B hB b e; subst e; simp at hB; subst hB; rfl
  have l7 := lk [none, none, none, none, none, none, none, some (dBlk ([97].map byteAV) false false), none] (by simp)
  have bd : prim ⟨G, lv (List.replicate 9 none) (dpos 0 (some 8) false) 4 5 6 D J V⟩ (.buildSlice 7 false 1 1 [.int .u8 0] [(0, 1)]) [.v (.int .u8 97)] = some (.own (.l 7) 1 0 1 1 (some 1), ⟨G, lv [none, none, none, none, none, none, none, some (dBlk ([97].map byteAV) false false), none] (dpos 0 (some 8) false) 4 5 6 D J V⟩) := rfl
  have g7 : (⟨G, lv [none, none, none, none, none, none, none, some (dBlk [byteAV 97] false false), none] (dpos 0 (some 8) false) 4 5 6 D J V⟩ : Hp).get (.l 7) = some ⟨[byteAV 97], false, true, true, false⟩ := rfl
  refine (WR_eq bd).2 ?_
  simp (disch := first | (simp only [DS, reduceCtorEq]; done) | omega) only [WS, St.guard, St.put, evalO, reduceCtorEq, reduceIte, Nat.reduceAdd, Nat.reduceEqDiff, List.map_cons, List.map_nil, g7, List.length_cons, List.length_nil, and_self, true_and, Nat.zero_lt_one, if_true]
  have Iu := I.used; have In := I.jn; have If := I.frm; have Ic := I.cnt; have Il := I.le; have Icl := I.cle
  refine WP_of (by exact tAdd HV l7 (dat_good D7) I.z (by omega) (a := .own (.l 7) 1 0 1 1 (some 1)) (b := [97]) (argV l7 (k := 7) rfl (by refine ⟨?_, ?_, ?_, ?_, ?_, ?_⟩ <;> simp [dpos]) (by omega) (fun c hc => by cases hc; simp)) (by rw [I.ep]; decide) (by omega) (by omega) (by omega) (by simp)) ?_
  obtain ⟨a1, I2⟩ := (full_step I (b := [97]) (by omega) (by simp) (by simp)).1 (by show 1 + needN 1 ≤ 4; unfold needN; omega)
  rw [a1]
  generalize (V.add D J [97]).2 = W at *
  obtain ⟨D2, J2, V2⟩ := W
  simp only at I2
  have I2u : J2.used = 2 := I2.used
  have I2c : J2.recs.length = 2 := I2.cnt
  have I2h : V2.half = 0 := by rw [I2.vd]
  simp (disch := first | (simp only [DS, reduceCtorEq]; done) | omega) only [WS, St.guard, St.put, evalO, reduceCtorEq, reduceIte, Nat.reduceAdd, Nat.reduceEqDiff, Int.reduceBEq]
  obtain ⟨m, c, hR⟩ := tRecs (i := 8) (D := D2) (J := J2) (V := V2) HV l7 (dat_good (G := G) D7) (by omega) (fun b hb => (I2.recs b hb).1) (fun b hb => by have := (I2.recs b hb).2; unfold room; omega) (by rw [I2c]; unfold room; omega) rfl
  refine WP_of (by exact hR) ?_
  have ls : ∀ h, prim h .lenSlice [.own (.l 8) m 0 (J2.recs.length - 1) 1 c] = some (.v (.int .i64 1), h) := fun h => by rw [I2c]; rfl
  have es : (lv [none, none, none, none, none, none, none, some (dBlk ([97].map byteAV) false false), none] (dpos 0 (some 8) false) 4 5 6 D2 J2 V2).set 8 (clB (J2.recs.drop 1)) = lv [none, none, none, none, none, none, none, some (dBlk ([97].map byteAV) false false), clB (J2.recs.drop 1)] (dpos 0 (some 8) false) 4 5 6 D2 J2 V2 := rfl
  have D8 : Dat [none, none, none, none, none, none, none, some (dBlk ([97].map byteAV) false false), clB (J2.recs.drop 1)] := by
    intro B hB b e
    simp only [List.mem_cons, List.not_mem_nil, or_false] at hB
    subst e
    rcases hB with hB | hB | hB | hB | hB | hB | hB | hB | hB
    · cases hB
    · cases hB
    · cases hB
    · cases hB
    · cases hB
    · cases hB
    · cases hB
    · cases hB; rfl
    · exact clB_db b hB.symm
  have l8 := lk [none, none, none, none, none, none, none, some (dBlk ([97].map byteAV) false false), clB (J2.recs.drop 1)] (by simp)
  rw [es]
  simp (disch := first | (simp only [DS, reduceCtorEq]; done) | omega) only [WS, St.guard, St.put, evalO, reduceCtorEq, reduceIte, Nat.reduceAdd, Nat.reduceEqDiff, ls, Int.reduceBEq]
  refine WP_of (by exact tUsed HV l8 (dat_good D8)) ?_
  rw [I2u]
  simp (disch := first | (simp only [DS, reduceCtorEq]; done) | omega) only [WS, St.guard, St.put, evalO, reduceCtorEq, reduceIte, Nat.reduceAdd, Nat.reduceEqDiff, Int.reduceBEq, Int.cast_ofNat_Int]
  refine WP_of (by exact tHalf HV l8 (dat_good D8)) ?_
  rw [I2h]
  simp (disch := first | (simp only [DS, reduceCtorEq]; done) | omega) only [WS, St.guard, St.put, evalO, reduceCtorEq, reduceIte, Nat.reduceAdd, Nat.reduceEqDiff, Int.reduceBEq, Int.cast_ofNat_Int, fin_tmp, leave_v]
  simp
end Go.AM
