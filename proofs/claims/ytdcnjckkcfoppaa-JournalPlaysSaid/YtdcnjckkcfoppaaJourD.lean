import Derived.Test.YtdcnjckkcfoppaaJourC
import Derived.Test.YtdcnjckkcfoppaaJourB
set_option linter.unusedVariables false
set_option linter.unusedSimpArgs false
namespace Go.AM
variable {D : DskD} {J : JD}
theorem needN_pos' {b : Txt} (hb : b ≠ []) : 1 ≤ needN b.length := by
  have : 0 < b.length := by cases b with | nil => exact absurd rfl hb | cons => simp
  unfold needN; omega
end Go.AM
namespace Go.AM
variable {D : DskD} {J : JD} {n : Nat}
def SmallR (l : List Txt) : Prop := ∀ b ∈ l, b ≠ [] ∧ b.length ≤ 201
theorem SmallR.big {l : List Txt} (h : SmallR l) : ∀ b ∈ l, b ≠ [] ∧ b.length ≤ 400000 := fun b hb => ⟨(h b hb).1, by have := (h b hb).2; omega⟩
end Go.AM
namespace Go.AM
variable {prog : String → Option IFn}
variable {G L : List (Option Blk)} {P : DPos} {D : DskD} {n q p : Nat} {B : Option Blk} {cs : List AV} {J : JD}
structure BtV where
  b : Txt
  a : AV
  va : ∀ h, View h a 1 b.length (b.map byteAV)
  hl : b.length ≤ maxLen
theorem BtV.lf (x : BtV) : AV.lf.lfs [x.a] = true := by
  rcases (x.va ⟨[], []⟩).cases with ⟨h, _⟩ | ⟨nl, h⟩ | ⟨ℓ, m, off, cap, B, h, hB, _⟩
  · rw [h]; rfl
  · rw [h]
    have := bytes_lfs (bs := x.b)
    simp [AV.lf.lfs, AV.lf, this]
  · have := hB
    cases ℓ <;> simp [Hp.get] at this
def rowBk (l : List Txt) : Option Blk := if l = [] then none else recB l
end Go.AM
namespace Go.AM
variable {prog : String → Option IFn}
variable {G L : List (Option Blk)} {P : DPos} {D : DskD} {n q p : Nat} {B : Option Blk} {cs : List AV} {J : JD}
def DB (B : Option Blk) : Prop := ∀ b, B = some b → b.labs = []
theorem DB.z : DB none := fun b h => by cases h
theorem DB.d {c : List AV} {o v : Bool} : DB (some (dBlk c o v)) := fun b h => by cases h; rfl
theorem DB.w {c : List AV} {o v w : Bool} : DB (some { dBlk c o v with wr := w }) := fun b h => by cases h; rfl
theorem DB.r {l : List Txt} : DB (rowBk l) := fun b h => by
  unfold rowBk at h
  split at h
  · cases h
  · cases h; rfl
end Go.AM
namespace Go.AM
variable {prog : String → Option IFn}
variable {G L : List (Option Blk)} {P : DPos} {D : DskD} {n q p : Nat} {B : Option Blk} {cs : List AV} {J : JD}
structure RowLib (prog : String → Option IFn) : Prop where
  rows : prog "haberdash/haberdashhelp.Rows" = some f_help_Rows
  same : prog "haberdash/haberdashhelp.Same[[]byte]" = some f_help_Same___byte_
  bytes : prog "haberdash/haberdashhelp.Bytes" = some f_help_Bytes
theorem same_rows (H : RowLib prog) {a b : Nat} {l : List Txt} (ha : G[a]? = some (recB l)) (hb : G[b]? = some (recB l)) (hl : l.length ≤ 2 ^ 40) :
    Ev prog (.call "haberdash/haberdashhelp.Same[[]byte]" [.own (.o a) l.length 0 l.length 1 none, .own (.o b) l.length 0 l.length 1 none, .fn "haberdash/haberdashhelp.Bytes" [] []] G) (.ret (.v (.bool true)) G) := by
  have vt : ∀ (t : Txt) h, View h (roAV t) 1 t.length (t.map byteAV) := fun t h => view_ro (by decide) (by simp)
  have := same_spec (T := recE) (U := recE) rfl rfl (H.same.trans (congrArg some (show f_help_Same___byte_ = gSame recE.esz recE.agg from rfl))) (G := G) (a := .own (.o a) l.length 0 l.length 1 none) (b := .own (.o b) l.length 0 l.length 1 none) (fv := .fn "haberdash/haberdashhelp.Bytes" [] []) (xs := l) (ys := l) (fun L => rec_view ha) (fun L => rec_view hb) (fun x y => decide (x = y)) (fun i x y _ _ => by
    refine op_fnV (g := "haberdash/haberdashhelp.Bytes") (first := []) (xs := [roAV x, roAV y]) (caps := []) (h := ⟨G, []⟩) (h' := ⟨G, []⟩) ?_ rfl rfl rfl trivial trivial
    exact Bytes_spec H.bytes (fun L => vt x _) (fun L => vt y _)) (by omega) (by omega)
  rw [same2_eq, decide_eq_true rfl] at this
  exact this
theorem rows_spec (H : RowLib prog) {a b : Nat} {l : List Txt} (ha : G[a]? = some (recB l)) (hb : G[b]? = some (recB l)) (hl : l.length ≤ 2 ^ 40) :
    Ev prog (.call "haberdash/haberdashhelp.Rows" [.own (.o a) l.length 0 l.length 1 none, .own (.o b) l.length 0 l.length 1 none] G) (.ret (.v (.bool true)) G) := by
  refine call_of_fin H.rows ?_
  simp only [f_help_Rows_B, enter, List.length_cons, List.length_nil, List.replicate, Nat.reduceAdd, Nat.reduceSub, List.cons_append, List.nil_append]
  simp (disch := first | (simp only [DS, reduceCtorEq]; done) | omega) only [WS, St.guard, St.put, evalO, reduceCtorEq, reduceIte, Nat.reduceAdd, Nat.reduceEqDiff]
  refine (WP_p (x := .bool true) (by rw [into_nil]; exact same_rows H ha hb hl) (by exact trivial)).2 ?_
  simp (disch := first | (simp only [DS, reduceCtorEq]; done) | omega) only [WS, St.guard, St.put, evalO, reduceCtorEq, reduceIte, Nat.reduceAdd, Nat.reduceEqDiff, fin_tmp, leave_v]
  simp
end Go.AM
