import Derived.Test.YtdcnjckkcfoppaaJourE
import Derived.Test.YtdcnjckkcfoppaaLawLeafB
set_option linter.unusedVariables false
set_option linter.unusedSimpArgs false
namespace Go.AM
variable {prog : String → Option IFn}
variable {N : Nat} {D D2 E E2 : DskD} {J J2 K K2 : JD} {X M : List (Option Blk)}
theorem copy_cut {G L} {j n off len m : Nat} {cap} {x : AV} {bs src : List UInt8} {o v : Bool} (hL : L[j]? = some (some (dBlk (bs.map byteAV) o v))) (hn : bs.length = n) (ho : off + len ≤ n) (hx : View ⟨G, L⟩ x 1 m (src.map byteAV)) (h0 : 0 < len) :
    prim ⟨G, L⟩ (.copy 1) [.own (.l j) n off len 1 cap, x] = some (.v (.int .i64 (Nat.min m len : Nat)), ⟨G, L.set j (some (dBlk ((blit bs off (src.take len)).map byteAV) o v))⟩) := by
  have hsl : src.length = m := by have := hx.hclen; simpa using this
  by_cases hm : m ≤ len
  · rw [show Nat.min m len = m from Nat.min_eq_left hm, List.take_of_length_le (by omega)]
    exact copy_own hL hn ho hx hm
  · have hmin : Nat.min m len = len := Nat.min_eq_right (by omega)
    simp only [prim, lenOf, Option.bind_some, hx.source, List.length_map, hsl, Nat.mul_one, if_true, hmin]
    have ht : (src.map byteAV).take (len * 1) = (src.take len).map byteAV := by rw [Nat.mul_one, List.map_take]
    simp only [Hp.copyInto, if_neg (show ¬ len = 0 by omega), Hp.get, hL, Option.join_some, ht]
    generalize src.take len = s2
    have hc : (dBlk (bs.map byteAV) o v).cells.length = n ∧ (dBlk (bs.map byteAV) o v).wr = true ∧ True ∧ len ≤ len ∧ off + len * 1 ≤ n ∧ okPut (.l j) (src.map byteAV) = true := ⟨by simp [hn, dBlk_cells], rfl, trivial, Nat.le_refl _, by omega, rfl⟩
    rw [if_pos hc]
    simp only [Option.map_some, bytes_lfs, dBlk, Bool.and_true, Hp.put, lay, blit, List.map_append, List.map_take, List.map_drop, List.length_map]
    rfl
def handS (b : Txt) : Sec := ⟨blit zs64 0 (b.take 64), by rw [blit_len, zs64_len]; rw [zs64_len, List.length_take]; omega⟩
theorem arg_any {G : List (Option Blk)} {P : DPos} {q p : Nat} {a : AV} {b : Txt} (va : ∀ h, View h a 1 b.length (b.map byteAV)) (nb : b ≠ [] → ∀ h : Hp, h.isNil .slice a = some false) : Arg G P q p a b :=
  ⟨fun D B cs X L => va _, fun hb D B cs X L => nb hb _, fun g => view_plain (va ⟨[], []⟩) _⟩
theorem arg_pre {G : List (Option Blk)} {P : DPos} {q p : Nat} {k : Nat} {b r : Txt} {c : Nat} (hf : Off P q p k) (hk : G[k]? = some (some (dBlk ((b ++ r).map byteAV) false false))) (hc : b.length ≤ c) :
    Arg G P q p (.own (.o k) (b.length + r.length) 0 b.length 1 (some c)) b := by
  have hlt := lt_of_get hk
  have hg : ∀ D B cs X, (dj G P q p D B cs ++ X)[k]? = some (some (dBlk ((b ++ r).map byteAV) false false)) := fun D B cs X => by
    rw [List.getElem?_append_left (by rw [dj_len]; exact hlt), dj_off hf]; exact hk
  refine ⟨fun D B cs X L' => ?_, fun hb D B cs X L' => ?_, fun g => rfl⟩
  · refine ⟨rfl, ?_, by simp, rfl, hc, by omega⟩
    simp only [Hp.sees, Hp.get, hg, Option.join_some, dBlk_cells, List.length_map, List.length_append, if_true, List.drop_zero, Nat.mul_one, List.map_append]
    rw [List.take_left' (by simp)]
  · refine isNil_own (B := dBlk ((b ++ r).map byteAV) false false) ?_ (by simp [dBlk_cells])
    simp only [Hp.get, hg]; rfl
theorem l_objJ {f xs} {i j pd : Nat} {J : JD} (he : Ev prog (.call f (xs.map (AV.ren (up 0))) (⟨[], M⟩ : Hp).into) (.ret (.tup [.ptr (.o ((⟨[], M⟩ : Hp).into.length + 1)) 9 0, .v (.int .i64 0)]) ((⟨[], M⟩ : Hp).into ++ newJO (⟨[], M⟩ : Hp).into.length pd J)))
    (hpd : pd < M.length) (hg : Good ⟨[], M⟩) (hij : i ≠ j) (hi : M[i]? = some none) (hj : M[j]? = some none) :
    Ev prog (.op (.call f [i, j]) xs ⟨[], M⟩) (.val (.tup [.ptr (.l j) 9 0, .v (.int .i64 0)]) ⟨[], (M.set i (recB J.recs)).set j (some (sBlk (jC .l pd i J) false))⟩) := by
  refine op_obj (h := ⟨[], M⟩) (Bq := dBlk (recE.row J.recs) true J.recs.isEmpty) (cs := jC .o pd (⟨[], M⟩ : Hp).into.length J) (cs2 := jC .l pd i J) (fun a => .tup [a, .v (.int .i64 0)]) (fun ρ a => rfl) he hij hi hj hg rfl ?_
  have d0 : down 0 M.length [i, j] (.o pd) = some (.l pd) := by simp only [down]; rw [if_neg (by omega), if_pos (by omega)]; rfl
  have d1 : down 0 M.length [i, j] (.o (⟨[], M⟩ : Hp).into.length) = some (.l i) := down_into0 (h := ⟨[], M⟩) (sites := [i, j])
  show AV.ren.rens (down 0 M.length [i, j]) _ = _
  simp only [jC, AV.ren.rens, AV.ren, d0, d1]
theorem l_objY {f xs} {i j pd : Nat} {J : JD} (he : Ev prog (.call f (xs.map (AV.ren (up 0))) (⟨[], M⟩ : Hp).into) (.ret (.tup [.ptr (.o ((⟨[], M⟩ : Hp).into.length + 1)) 8 0, .v (.int .i64 0)]) ((⟨[], M⟩ : Hp).into ++ newYO (⟨[], M⟩ : Hp).into.length pd J)))
    (hpd : pd < M.length) (hg : Good ⟨[], M⟩) (hij : i ≠ j) (hi : M[i]? = some none) (hj : M[j]? = some none) :
    Ev prog (.op (.call f [i, j]) xs ⟨[], M⟩) (.val (.tup [.ptr (.l j) 8 0, .v (.int .i64 0)]) ⟨[], (M.set i (recB J.recs)).set j (some (sBlk (yC .l pd i J) false))⟩) := by
  refine op_obj (h := ⟨[], M⟩) (Bq := dBlk (recE.row J.recs) true J.recs.isEmpty) (cs := yC .o pd (⟨[], M⟩ : Hp).into.length J) (cs2 := yC .l pd i J) (fun a => .tup [a, .v (.int .i64 0)]) (fun ρ a => rfl) he hij hi hj hg rfl ?_
  have d0 : down 0 M.length [i, j] (.o pd) = some (.l pd) := by simp only [down]; rw [if_neg (by omega), if_pos (by omega)]; rfl
  have d1 : down 0 M.length [i, j] (.o (⟨[], M⟩ : Hp).into.length) = some (.l i) := down_into0 (h := ⟨[], M⟩) (sites := [i, j])
  show AV.ren.rens (down 0 M.length [i, j]) _ = _
  simp only [yC, AV.ren.rens, AV.ren, d0, d1]
section
variable {P : DPos} {frm nn : Nat} {ep : BitVec 32} {i j : Nat}
variable (hM : lset M P D = M) (hP : P.Ok M.length N) (z : Siz D N) (hN : N ≤ 20000) (hg : Good ⟨[], M⟩) (hE : newE D frm nn ep = 0) (hij : i ≠ j) (hi : M[i]? = some none) (hj : M[j]? = some none)
include hM hP z hN hg hE hij hi hj
omit hP z hN hg hE hij hi hj in
theorem m_into : (⟨[], M⟩ : Hp).into = dset (⟨[], M⟩ : Hp).into P D := by
  have := into_lset (L := M) (P := P) (D := D)
  rw [hM] at this; exact this
omit hM hN hg hE hij hi hj in
theorem m_ok : P.Ok (⟨[], M⟩ : Hp).into.length D.b.length := by
  rw [into_len, z.b]; simpa using hP
theorem mNew (H : JourLib prog) : Ev prog (.op (.call "haberdash/journal.New" [i, j]) [.ptr (.l P.p) 5 0, .v (.int .i64 (frm : Nat)), .v (.int .i64 (nn : Nat)), .v (u32 ep)] ⟨[], M⟩) (.val (.tup [.ptr (.l j) 9 0, .v (.int .i64 0)]) ⟨[], (M.set i (recB (newJ frm nn ep).recs)).set j (some (sBlk (jC .l P.p i (newJ frm nn ep)) false))⟩) := by
  refine l_objJ (pd := P.p) ?_ hP.hp hg hij hi hj
  have := newJ_ok H (P := P) (m_ok hP z) (by rw [z.b]; exact hN) hE
  rw [← m_into hM] at this
  simp only [List.map_cons, List.map_nil, AV.ren, up, Nat.zero_add]
  exact this
theorem mOpen (H : JourLib prog) : Ev prog (.op (.call "haberdash/journal.Open" [i, j]) [.ptr (.l P.p) 5 0, .v (.int .i64 (frm : Nat)), .v (.int .i64 (nn : Nat)), .v (u32 ep)] ⟨[], M⟩) (.val (.tup [.ptr (.l j) 9 0, .v (.int .i64 0)]) ⟨[], (M.set i (recB (openJ D frm nn ep).recs)).set j (some (sBlk (jC .l P.p i (openJ D frm nn ep)) false))⟩) := by
  refine l_objJ (pd := P.p) ?_ hP.hp hg hij hi hj
  have := openJ_ok H (P := P) (m_ok hP z) (by rw [z.b]; exact hN) hE
  rw [← m_into hM] at this
  simp only [List.map_cons, List.map_nil, AV.ren, up, Nat.zero_add]
  exact this
end
section
variable {P : DPos} {frm nn : Nat} {ep : BitVec 32} {i j : Nat}
variable (hM : lset M P D.sw = M) (hP : P.Ok M.length N) (z : Siz D N) (hN : N ≤ 20000) (hg : Good ⟨[], M⟩) (hE : newE D frm nn ep = 0) (hij : i ≠ j) (hi : M[i]? = some none) (hj : M[j]? = some none)
include hM hP z hN hg hE hij hi hj
theorem mBlank (hb : prog "haberdash/haberdashref06.Blank" = some f_ref06_Blank) : Ev prog (.op (.call "haberdash/haberdashref06.Blank" [i, j]) [.ptr (.l P.p) 5 0, .v (.int .i64 (frm : Nat)), .v (.int .i64 (nn : Nat)), .v (u32 ep)] ⟨[], M⟩) (.val (.tup [.ptr (.l j) 8 0, .v (.int .i64 0)]) ⟨[], (M.set i (recB (newJ frm nn ep).recs)).set j (some (sBlk (yC .l P.p i (newJ frm nn ep)) false))⟩) := by
  refine l_objY (pd := P.p) ?_ hP.hp hg hij hi hj
  have hin : (⟨[], M⟩ : Hp).into = dset (⟨[], M⟩ : Hp).into P D.sw := by
    have := into_lset (L := M) (P := P) (D := D.sw)
    rw [hM] at this; exact this
  have := blank_ok hb (P := P) (D := D) (G := (⟨[], M⟩ : Hp).into) (by rw [into_len, z.b]; simpa using hP) (by rw [z.b]; exact hN) hE
  rw [← hin] at this
  simp only [List.map_cons, List.map_nil, AV.ren, up, Nat.zero_add]
  exact this
theorem mROpen (H : TakeLib prog) (hb : prog "haberdash/haberdashref06.Blank" = some f_ref06_Blank) (ho : prog "haberdash/haberdashref06.Open" = some f_ref06_Open) (hr : prog "(*haberdash/haberdashref06.Journal).record" = some f___ref06_Journal__record) (hn : nn ≤ 20000) :
    Ev prog (.op (.call "haberdash/haberdashref06.Open" [i, j]) [.ptr (.l P.p) 5 0, .v (.int .i64 (frm : Nat)), .v (.int .i64 (nn : Nat)), .v (u32 ep)] ⟨[], M⟩) (.val (.tup [.ptr (.l j) 8 0, .v (.int .i64 0)]) ⟨[], (M.set i (recB (openJ D frm nn ep).recs)).set j (some (sBlk (yC .l P.p i (openJ D frm nn ep)) false))⟩) := by
  refine l_objY (J := openJ D frm nn ep) (pd := P.p) ?_ hP.hp hg hij hi hj
  have hin : (⟨[], M⟩ : Hp).into = dset (⟨[], M⟩ : Hp).into P D.sw := by
    have := into_lset (L := M) (P := P) (D := D.sw)
    rw [hM] at this; exact this
  have := openR_ok H hb ho hr (P := P) (D := D) (G := (⟨[], M⟩ : Hp).into) (by rw [into_len, z.b]; simpa using hP) (by rw [z.b]; exact hN) hE
  rw [← hin, openR_openJ hn] at this
  simp only [List.map_cons, List.map_nil, AV.ren, up, Nat.zero_add]
  exact this
end
end Go.AM
namespace Go.AM
variable {prog : String → Option IFn}
variable {n frm N : Nat} {D E : DskD} {J K : JD} {X Y : List (Option Blk)}
def epW (e : Nat) : BitVec 32 := BitVec.ofNat 32 e
theorem epW_ne {e : Nat} (h1 : 1 ≤ e) (h2 : e ≤ 1000) : epW e ≠ 0#32 := fun h => by
  have := congrArg BitVec.toNat h
  unfold epW at this
  rw [BitVec.toNat_ofNat, Nat.mod_eq_of_lt (by omega)] at this
  simp at this; omega
theorem epW_add {e : Nat} : vBin .add (u32 (epW e)) (.int .u32 1) = some (u32 (epW (e + 1))) := by
  have h : (.int .u32 1 : Value) = u32 1#32 := rfl
  simp only [vBin, u32, epW, ne_eq, not_true_eq_false, if_false, Option.some.injEq, Value.int.injEq, true_and]
  show ((BitVec.ofNat 32 e).toNat + 1 : Int) % 4294967296 = _
  rw [BitVec.toNat_ofNat, BitVec.toNat_ofNat]
  omega
theorem newE_ok {e : Nat} (h0 : D.off = false) (z : Siz D N) (h1 : 1 ≤ n) (hf : frm + n ≤ N) (he1 : 1 ≤ e) (he2 : e ≤ 1000) : newE D (frm : Nat) (n : Nat) (epW e) = 0 := by
  unfold newE
  have := epW_ne he1 he2
  rw [z.b, if_neg (by simp [this]; omega), h0]
  rfl
theorem start_off : D.start.off = false := by
  unfold DskD.start
  split
  · rfl
  · rename_i h; simpa using h
theorem layF_siz {at' : Nat → Int} {s : Nat → Sec} : ∀ (m i : Nat) {D : DskD}, Siz D N → Siz (layF D at' s i m).2 N
  | 0, i, D, z => z.sync
  | m + 1, i, D, z => by
    unfold layF
    split
    · exact layF_siz m (i + 1) z.write
    · exact z.write
theorem add_siz {b : Txt} (z : Siz D N) : Siz (J.add D b).2.1 N := by
  unfold JD.add
  split
  · exact z
  split
  · exact z
  split
  · exact z
  split
  · exact layF_siz _ _ z
  · exact layF_siz _ _ z
theorem add_same {b : Txt} : (J.add D b).2.2.n = J.n ∧ (J.add D b).2.2.frm = J.frm ∧ (J.add D b).2.2.ep = J.ep := by
  unfold JD.add
  split
  · exact ⟨rfl, rfl, rfl⟩
  split
  · exact ⟨rfl, rfl, rfl⟩
  split
  · exact ⟨rfl, rfl, rfl⟩
  split
  · exact ⟨rfl, rfl, rfl⟩
  · exact ⟨rfl, rfl, rfl⟩
def plSt (n frm N : Nat) (x : StJ) (q : DskD × JD × Nat) : DskD × JD × Nat := match umod x.kind 7 with
  | 3 => ({ q.1 with armed := x.at'.toNat }, q.2.1, q.2.2)
  | 4 => ((q.1.crash x.keep).start, openJ (q.1.crash x.keep).start frm n (epW (q.2.2 + 1)), q.2.2 + 1)
  | 5 => ((q.1.crash x.keep).start, newJ frm n (epW (q.2.2 + 1)), q.2.2 + 1)
  | 6 => ((q.1.write ((umod x.at' N : Nat) : Int) (handS x.b)).start, openJ (q.1.write ((umod x.at' N : Nat) : Int) (handS x.b)).start frm n (epW (q.2.2 + 1)), q.2.2 + 1)
  | _ => ((q.2.1.add q.1 x.b).2.1, (q.2.1.add q.1 x.b).2.2, q.2.2)
def plN (n frm N : Nat) (xs : List StJ) : Nat → DskD × JD × Nat
  | 0 => (newD N, newJ frm n (epW 1), 1)
  | i + 1 => match xs[i]? with
    | some x => plSt n frm N x (plN n frm N xs i)
    | none => plN n frm N xs i
structure PlInv (n frm N i : Nat) (q : DskD × JD × Nat) : Prop where
  z : Siz q.1 N
  t : TurnOk N q.2.1
  jn : q.2.1.n = n
  jf : q.2.1.frm = frm
  e1 : 1 ≤ q.2.2
  e2 : q.2.2 ≤ i + 1
theorem plN_inv (h1 : 1 ≤ n) (hf : frm + n ≤ N) (hN : N ≤ 20000) {xs : List StJ} : ∀ i, i ≤ 100 → PlInv n frm N i (plN n frm N xs i)
  | 0, _ => ⟨.new, turn_new hf (epW_ne (by omega) (by omega)), rfl, rfl, Nat.le_refl _, Nat.le_refl _⟩
  | i + 1, hi => by
    have I := plN_inv h1 hf hN (xs := xs) i (by omega)
    unfold plN
    split
    · rename_i x _
      generalize plN n frm N xs i = q at *
      obtain ⟨D, J, e⟩ := q
      have ie1 := I.e1; have ie2 := I.e2
      simp only at ie1 ie2
      have op : ∀ D' : DskD, Siz D' N → PlInv n frm N (i + 1) (D', openJ D' frm n (epW (e + 1)), e + 1) := fun D' z' => by
        obtain ⟨a, b, c⟩ := turn_open (N := N) (D := D') (frm := frm) (nn := n) (ep := epW (e + 1)) z'.b hN hf (epW_ne (by omega) (by omega))
        exact ⟨z', a, b, c, by show 1 ≤ e + 1; omega, by show e + 1 ≤ _; omega⟩
      unfold plSt
      split
      · have hx := x.ha
        exact ⟨⟨I.z.a, I.z.b, I.z.l, by unfold I64 at hx; show x.at'.toNat < 2 ^ 63; omega⟩, I.t, I.jn, I.jf, ie1, by show e ≤ _; omega⟩
      · exact op _ I.z.crash.start
      · exact ⟨I.z.crash.start, turn_new hf (epW_ne (e := e + 1) (by omega) (by omega)), rfl, rfl, by show 1 ≤ e + 1; omega, by show e + 1 ≤ _; omega⟩
      · exact op _ I.z.write.start
      · obtain ⟨s1, s2, s3⟩ := add_same (D := D) (J := J) (b := x.b)
        exact ⟨add_siz I.z, turn_add I.t, s1.trans I.jn, s2.trans I.jf, ie1, by show e ≤ _; omega⟩
    · have ie2 := I.e2
      exact ⟨I.z, I.t, I.jn, I.jf, I.e1, by show (plN n frm N xs i).2.2 ≤ _; omega⟩
theorem yE_new : prim ⟨[], yl N D J E K (none :: Y)⟩ (.alloc 12 [.int .i64 0, .int .i64 0, .slice none 0 0, .slice none 0 0] []) [] = some (.ptr (.l 12) 4 0, ⟨[], yl N D J E K (pO [.v (.int .i64 0), .v (.int .i64 0), .v (.slice none 0 0), .v (.slice none 0 0)] :: Y)⟩) := rfl
theorem yE_st {cs ds : List AV} (hl : cs.length = 4) (hd : ds.length = 4) (hf : AV.lf.lfs ds = true) : prim ⟨[], yl N D J E K (pO cs :: Y)⟩ (.store 4 false) [.ptr (.l 12) 4 0, .agg ds] = some (.v undef, ⟨[], yl N D J E K (pO ds :: Y)⟩) := by
  rw [px_store, show (AV.agg ds).cellsOf = some ds from rfl]
  simp only [Option.bind_some, Hp.mayFreeze, Bool.false_eq_true, if_false]
  show (if cs.length = 4 ∧ _ then _ else none) = _
  refine (if_pos ⟨hl, rfl, hd, by omega, rfl⟩).trans ?_
  have e : lay cs 0 ds = ds := by unfold lay; rw [List.take_zero, List.nil_append, List.drop_of_length_le (by omega), List.append_nil]
  show some (_, (⟨[], yl N D J E K (some ⟨lay cs 0 ds, false, true, true && AV.lf.lfs ds, false⟩ :: Y)⟩ : Hp)) = _
  rw [e, hf]; rfl
theorem yE_i {cs : List AV} {i : Nat} {y : AV} (hi : i < 4) (hl : cs.length = 4) (hy : cs[i]? = some y) : prim ⟨[], yl N D J E K (pO cs :: Y)⟩ (.load 1 false) [.ptr (.l 12) 4 i] = some (y, ⟨[], yl N D J E K (pO cs :: Y)⟩) := by
  rw [px_load_l]
  show (if cs.length = 4 ∧ i + 1 ≤ 4 then (whole false ((cs.drop i).take 1)).map fun a => (a, _) else none) = _
  refine (if_pos ⟨hl, by omega⟩).trans ?_
  rw [List.take_one, List.head?_drop, hy]; rfl
theorem stJ_ix {h : Hp} {a : AV} {xs : List StJ} {i : Nat} {x : StJ} (v : TView stJE h a xs) (hx : xs[i]? = some x) :
    prim h (.indexAddr 4) [a, .v (.int .i64 (i : Int))] = some (elemPtr a 4 i, h) := v.index (lt_of_get hx)
theorem stJ_ld {h : Hp} {a : AV} {xs : List StJ} {i : Nat} {x : StJ} (v : TView stJE h a xs) (hx : xs[i]? = some x) :
    prim h (.load 4 true) [elemPtr a 4 i] = some (.agg x.cells, h) := v.load hx
end Go.AM
namespace Go.AM
variable {prog : String → Option IFn}
structure OwnB8 (prog : String → Option IFn) : Prop where
  own : prog "haberdash/haberdashhelp.Own[byte]" = some f_help_Own_byte_
  kept : prog "haberdash/haberdashhelp.Kept[byte]" = some f_help_Kept_byte_
  sameb : prog "haberdash/haberdashhelp.Same[byte]" = some f_help_Same_byte_
  plain : prog "haberdash/haberdashhelp.Plain[byte]" = some f_help_Plain_byte_
  plain1 : prog "haberdash/haberdashhelp.Plain[byte]$1" = some f_help_Plain_byte__1
theorem own8 (H : OwnB8 prog) {G a} {bs : List UInt8} (x0 : UInt8) (v : ∀ L, View ⟨G, L⟩ a 1 bs.length (bs.map byteAV)) (hr : bs.length + 3 ≤ room) :
    Ev prog (.call "haberdash/haberdashhelp.Own[byte]" [a, byteAV x0] G) (.ret (.own (.o G.length) (bs.length + 3) 0 bs.length 1 (some (bs.length + 3))) (G ++ [some (dBlk ((bs ++ [x0, x0, x0]).map byteAV) false false)])) := by
  have := own_spec (prog := prog) (T := bEnc) (byt := 1) (z := [.int .u8 0]) rfl (H.own.trans (congrArg some (by rfl))) x0 (fun L => bView (v L)) hr (by omega)
  rw [ownCells, bEnc_row, show bEnc.esz = 1 from rfl, Nat.mul_one] at this
  exact this
theorem plain8 (H : OwnB8 prog) : PlainOK prog "haberdash/haberdashhelp.Plain[byte]" bEnc := by
  refine plain_ok (same := "haberdash/haberdashhelp.Same[byte]") (one := "haberdash/haberdashhelp.Plain[byte]$1") (H.plain.trans (congrArg some (by rfl))) (H.sameb.trans (congrArg some (by rfl))) fun {G} x y => ?_
  refine call_of_fin H.plain1 ?_
  simp only [f_help_Plain_byte__1_B, enter, List.length_cons, List.length_nil, List.replicate, Nat.reduceAdd, Nat.reduceSub, List.cons_append, List.nil_append, show ∀ b, bEnc.av b = .v (u8 b) from fun _ => rfl]
  simp (disch := first | (simp only [DS, reduceCtorEq]; done) | omega) only [WS, St.guard, St.put, evalO, reduceCtorEq, reduceIte, Nat.reduceAdd, Nat.reduceEqDiff, fin_tmp, leave_v]
  have e : (x == y) = decide (x = y) := by rw [Bool.eq_iff_iff]; simp
  simp [e]
theorem kept8 (H : OwnB8 prog) {G p b} {bs : List UInt8} (x0 : UInt8) (hp : G[p]? = some (some (dBlk ((bs ++ [x0, x0, x0]).map byteAV) false false))) (w : ∀ L, View ⟨G, L⟩ b 1 bs.length (bs.map byteAV)) (hx : bs.length < 2 ^ 61) :
    Ev prog (.call "haberdash/haberdashhelp.Kept[byte]" [.own (.o p) (bs.length + 3) 0 bs.length 1 (some (bs.length + 3)), b, byteAV x0] G) (.ret (.v (.bool true)) G) := by
  have := kept_spec (prog := prog) (T := bEnc) (plain := "haberdash/haberdashhelp.Plain[byte]") (cmp := .bin .neq) (x0 := x0) (H.kept.trans (congrArg some (by rfl))) (plain8 H) rfl (fun h => by
    rw [show bEnc.av x0 = .v (u8 x0) from rfl, px_bin]; simp [vBin, u8]) (by rw [ownCells, bEnc_row]; exact hp) (fun L => bView (w L)) hx
  rw [show bEnc.esz = 1 from rfl, Nat.mul_one] at this
  exact this
end Go.AM
