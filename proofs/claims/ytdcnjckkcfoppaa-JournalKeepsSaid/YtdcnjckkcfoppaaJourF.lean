import Derived.Test.YtdcnjckkcfoppaaJourE
import Derived.Test.YtdcnjckkcfoppaaLawLeafB
set_option linter.unusedVariables false
set_option linter.unusedSimpArgs false
namespace Go.AM
variable {prog : String → Option IFn}
variable {N : Nat} {D D2 E E2 : DskD} {J J2 K K2 : JD} {X M : List (Option Blk)}
theorem l_objJ {f xs} {i j pd : Nat} {J : JD} (he : Ev prog (.call f (xs.map (AV.ren (up 0))) (⟨[], M⟩ : Hp).into) (.ret (.tup [.ptr (.o ((⟨[], M⟩ : Hp).into.length + 1)) 9 0, .v (.int .i64 0)]) ((⟨[], M⟩ : Hp).into ++ newJO (⟨[], M⟩ : Hp).into.length pd J)))
    (hpd : pd < M.length) (hg : Good ⟨[], M⟩) (hij : i ≠ j) (hi : M[i]? = some none) (hj : M[j]? = some none) :
    Ev prog (.op (.call f [i, j]) xs ⟨[], M⟩) (.val (.tup [.ptr (.l j) 9 0, .v (.int .i64 0)]) ⟨[], (M.set i (recB J.recs)).set j (some (sBlk (jC .l pd i J) false))⟩) := by
  refine op_obj (h := ⟨[], M⟩) (Bq := dBlk (recE.row J.recs) true J.recs.isEmpty) (cs := jC .o pd (⟨[], M⟩ : Hp).into.length J) (cs2 := jC .l pd i J) (fun a => .tup [a, .v (.int .i64 0)]) (fun ρ a => rfl) he hij hi hj hg rfl ?_
  have d0 : down 0 M.length [i, j] (.o pd) = some (.l pd) := by simp only [down]; rw [if_neg (by omega), if_pos (by omega)]; rfl
  have d1 : down 0 M.length [i, j] (.o (⟨[], M⟩ : Hp).into.length) = some (.l i) := down_into0 (h := ⟨[], M⟩) (sites := [i, j])
  show AV.ren.rens (down 0 M.length [i, j]) _ = _
  simp only [jC, AV.ren.rens, AV.ren, d0, d1]
section
variable {P : DPos} {frm nn : Nat} {ep : BitVec 32} {i j : Nat}
variable (hM : lset M P D = M) (hP : P.Ok M.length N) (z : Siz D N) (hN : N ≤ 20000) (hg : Good ⟨[], M⟩) (hE : newE D frm nn ep = 0) (hij : i ≠ j) (hi : M[i]? = some none) (hj : M[j]? = some none)
include hM hP z hN hg hE hij hi hj
omit hP z hN hg hE hij hi hj in
theorem m_into : (⟨[], M⟩ : Hp).into = dset (⟨[], M⟩ : Hp).into P D := by
  have := into_lset (L := M) (P := P) (D := D)
  rw [hM] at this; exact this
omit hM hN hg hE hij hi hj in
theorem m_ok : P.Ok (⟨[], M⟩ : Hp).into.length D.b.length := by
  rw [into_len, z.b]; simpa using hP
theorem mNew (H : JourLib prog) : Ev prog (.op (.call "haberdash/journal.New" [i, j]) [.ptr (.l P.p) 5 0, .v (.int .i64 (frm : Nat)), .v (.int .i64 (nn : Nat)), .v (u32 ep)] ⟨[], M⟩) (.val (.tup [.ptr (.l j) 9 0, .v (.int .i64 0)]) ⟨[], (M.set i (recB (newJ frm nn ep).recs)).set j (some (sBlk (jC .l P.p i (newJ frm nn ep)) false))⟩) := by
  refine l_objJ (pd := P.p) ?_ hP.hp hg hij hi hj
  have := newJ_ok H (P := P) (m_ok hP z) (by rw [z.b]; exact hN) hE
  rw [← m_into hM] at this
  simp only [List.map_cons, List.map_nil, AV.ren, up, Nat.zero_add]
  exact this
theorem mOpen (H : JourLib prog) : Ev prog (.op (.call "haberdash/journal.Open" [i, j]) [.ptr (.l P.p) 5 0, .v (.int .i64 (frm : Nat)), .v (.int .i64 (nn : Nat)), .v (u32 ep)] ⟨[], M⟩) (.val (.tup [.ptr (.l j) 9 0, .v (.int .i64 0)]) ⟨[], (M.set i (recB (openJ D frm nn ep).recs)).set j (some (sBlk (jC .l P.p i (openJ D frm nn ep)) false))⟩) := by
  refine l_objJ (pd := P.p) ?_ hP.hp hg hij hi hj
  have := openJ_ok H (P := P) (m_ok hP z) (by rw [z.b]; exact hN) hE
  rw [← m_into hM] at this
  simp only [List.map_cons, List.map_nil, AV.ren, up, Nat.zero_add]
  exact this
end
section
variable {P : DPos} {frm nn : Nat} {ep : BitVec 32} {i j : Nat}
variable (hM : lset M P D.sw = M) (hP : P.Ok M.length N) (z : Siz D N) (hN : N ≤ 20000) (hg : Good ⟨[], M⟩) (hE : newE D frm nn ep = 0) (hij : i ≠ j) (hi : M[i]? = some none) (hj : M[j]? = some none)
include hM hP z hN hg hE hij hi hj
end
end Go.AM
namespace Go.AM
variable {prog : String → Option IFn}
variable {n frm N : Nat} {D E : DskD} {J K : JD} {X Y : List (Option Blk)}
def epW (e : Nat) : BitVec 32 := BitVec.ofNat 32 e
theorem epW_ne {e : Nat} (h1 : 1 ≤ e) (h2 : e ≤ 1000) : epW e ≠ 0#32 := fun h => by
  have := congrArg BitVec.toNat h
  unfold epW at this
  rw [BitVec.toNat_ofNat, Nat.mod_eq_of_lt (by omega)] at this
  simp at this; omega
theorem newE_ok {e : Nat} (h0 : D.off = false) (z : Siz D N) (h1 : 1 ≤ n) (hf : frm + n ≤ N) (he1 : 1 ≤ e) (he2 : e ≤ 1000) : newE D (frm : Nat) (n : Nat) (epW e) = 0 := by
  unfold newE
  have := epW_ne he1 he2
  rw [z.b, if_neg (by simp [this]; omega), h0]
  rfl
theorem layF_siz {at' : Nat → Int} {s : Nat → Sec} : ∀ (m i : Nat) {D : DskD}, Siz D N → Siz (layF D at' s i m).2 N
  | 0, i, D, z => z.sync
  | m + 1, i, D, z => by
    unfold layF
    split
    · exact layF_siz m (i + 1) z.write
    · exact z.write
theorem add_siz {b : Txt} (z : Siz D N) : Siz (J.add D b).2.1 N := by
  unfold JD.add
  split
  · exact z
  split
  · exact z
  split
  · exact z
  split
  · exact layF_siz _ _ z
  · exact layF_siz _ _ z
end Go.AM
