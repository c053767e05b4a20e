import Derived.Test.YtdcnjckkcfoppaaJourC
import Derived.Test.YtdcnjckkcfoppaaJourB
set_option linter.unusedVariables false
set_option linter.unusedSimpArgs false
namespace Go.AM
variable {D : DskD} {J : JD}
def RecAt (D : DskD) (ep : BitVec 32) (num u : Nat) (b : Txt) : Prop := ∀ k, k < needN b.length → secAt D.b ((u + k : Nat) : Int) = secK ep num (needN b.length) b k
theorem pc_take {b : Txt} {k : Nat} : b.take (k * 46) ++ pc b k = b.take ((k + 1) * 46) := by
  unfold pc
  rw [show (k + 1) * 46 = k * 46 + 46 by omega, List.take_add]
theorem lv_rec {ep : BitVec 32} {num : Nat} {b : Txt} {k : Nat} (he : ep ≠ 0#32) (hb : b ≠ []) (hR : RecAt D ep num (J.frm + J.used) b) (hk : k < needN b.length) (hn : J.used + k < J.n) :
    lvOK D J (J.used + k) = true ∧ lvX D J (J.used + k) = leafK ep num (needN b.length) b k := by
  have hr := leafK_right (num := num) he hb hk
  have hs : (secAt D.b ((J.frm + (J.used + k) : Nat) : Int)).1 = (leafK ep num (needN b.length) b k).bytes := by
    have := hR k hk
    rw [show J.frm + J.used + k = J.frm + (J.used + k) by omega] at this
    rw [this, secK_bytes]
  unfold lvOK lvX
  rw [if_pos hn, if_pos hn, hs]
  exact ⟨takeOK_bytes hr, takeX_bytes hr⟩
theorem tkF_rec {ep : BitVec 32} {b : Txt} (he : ep ≠ 0#32) (hb : b ≠ []) (hR : RecAt D ep J.recs.length (J.frm + J.used) b) (hla : ¬ ep.toNat < J.la.toNat) (hn : J.used + needN b.length ≤ J.n) (hrl : J.recs.length < 2 ^ 32) :
    ∀ (j k f : Nat) (e' : BitVec 32), k + j + 1 = needN b.length → j + 1 ≤ f → (k ≠ 0 → e' = ep) → tkF D J f k (b.take (k * 46)) e' = (true, ({ J with ep := ep } : JD).note b (needN b.length))
  | j, k, 0, e', hj, hf, hk => by omega
  | j, k, f + 1, e', hj, hf, hk => by
    obtain ⟨ho, hx⟩ := lv_rec (J := J) (k := k) he hb hR (by omega) (by omega)
    have hN : lvNext D J k e' = true := by
      unfold lvNext
      rw [ho, hx]
      have h1 : ((leafK ep J.recs.length (needN b.length) b k).n.toNat == J.recs.length) = true := by
        rw [beq_iff_eq]; show (BitVec.ofNat 32 J.recs.length).toNat = _; rw [BitVec.toNat_ofNat, Nat.mod_eq_of_lt hrl]
      have h2 : ((leafK ep J.recs.length (needN b.length) b k).f == decide (k = 0)) = true := by rw [beq_iff_eq]; rfl
      have h3 : decide ((leafK ep J.recs.length (needN b.length) b k).e.toNat < J.la.toNat) = false := decide_eq_false hla
      have h4 : (decide (k = 0) || (leafK ep J.recs.length (needN b.length) b k).e == e') = true := by
        by_cases h : k = 0
        · rw [decide_eq_true h]; rfl
        · rw [hk h]; show (decide (k = 0) || ep == ep) = true; rw [beq_self_eq_true, Bool.or_true]
      rw [h1, h2, h3, h4]
      rfl
    unfold tkF
    rw [if_pos hN, hx]
    have hd : b.take (k * 46) ++ (leafK ep J.recs.length (needN b.length) b k).d = b.take ((k + 1) * 46) := pc_take
    have hl : (leafK ep J.recs.length (needN b.length) b k).l = decide (k = needN b.length - 1) := rfl
    have hE : (leafK ep J.recs.length (needN b.length) b k).e = ep := rfl
    rw [hd, hl, hE]
    cases j with
    | zero =>
      rw [if_pos (decide_eq_true (by omega))]
      have hlen : b.length ≤ (k + 1) * 46 := by unfold needN at hj; omega
      rw [List.take_of_length_le hlen, show k + 1 = needN b.length by omega]
    | succ j =>
      rw [if_neg (by simp; omega)]
      exact tkF_rec he hb hR hla hn hrl j (k + 1) f ep (by omega) (by omega) (fun _ => rfl)
theorem needN_pos' {b : Txt} (hb : b ≠ []) : 1 ≤ needN b.length := by
  have : 0 < b.length := by cases b with | nil => exact absurd rfl hb | cons => simp
  unfold needN; omega
theorem take_rec {ep : BitVec 32} {b : Txt} (he : ep ≠ 0#32) (hb : b ≠ []) (hR : RecAt D ep J.recs.length (J.frm + J.used) b) (hla : ¬ ep.toNat < J.la.toNat) (hn : J.used + needN b.length ≤ J.n) (hrl : J.recs.length < 2 ^ 32) :
    J.take D = (true, ({ J with ep := ep } : JD).note b (needN b.length)) := by
  have := needN_pos' hb
  exact tkF_rec he hb hR hla hn hrl (needN b.length - 1) 0 _ _ (by omega) (by omega) (fun h => absurd rfl h)
def sumN : List Txt → Nat
  | [] => 0
  | b :: l => needN b.length + sumN l
end Go.AM
namespace Go.AM
variable {D : DskD} {J : JD} {n : Nat}
def addAll : DskD × JD → List Txt → DskD × JD
  | q, [] => q
  | q, b :: l => addAll (q.2.add q.1 b).2 l
theorem recAt_of {A : DskD} {ep : BitVec 32} {num u : Nat} {b : Txt} (h : ∀ k, k < needN b.length → A.b[u + k]? = some (secK ep num (needN b.length) b k)) : RecAt A ep num u b := fun k hk => by
  unfold secAt
  rw [Int.toNat_natCast, List.getD_eq_getElem?_getD, h k hk]; rfl
def RecAt' (A : List Sec) (ep : BitVec 32) (num u : Nat) (b : Txt) : Prop := ∀ k, k < needN b.length → A[u + k]? = some (secK ep num (needN b.length) b k)
end Go.AM
namespace Go.AM
variable {D : DskD} {J : JD} {n : Nat}
def SmallR (l : List Txt) : Prop := ∀ b ∈ l, b ≠ [] ∧ b.length ≤ 201
theorem SmallR.big {l : List Txt} (h : SmallR l) : ∀ b ∈ l, b ≠ [] ∧ b.length ≤ 400000 := fun b hb => ⟨(h b hb).1, by have := (h b hb).2; omega⟩
end Go.AM
namespace Go.AM
variable {prog : String → Option IFn}
variable {G L : List (Option Blk)} {P : DPos} {D : DskD} {n q p : Nat} {B : Option Blk} {cs : List AV} {J : JD}
structure BtV where
  b : Txt
  a : AV
  va : ∀ h, View h a 1 b.length (b.map byteAV)
  hl : b.length ≤ maxLen
theorem BtV.lf (x : BtV) : AV.lf.lfs [x.a] = true := by
  rcases (x.va ⟨[], []⟩).cases with ⟨h, _⟩ | ⟨nl, h⟩ | ⟨ℓ, m, off, cap, B, h, hB, _⟩
  · rw [h]; rfl
  · rw [h]
    have := bytes_lfs (bs := x.b)
    simp [AV.lf.lfs, AV.lf, this]
  · have := hB
    cases ℓ <;> simp [Hp.get] at this
def bsE : Enc BtV := ⟨fun x => [x.a], 1, true, fun _ => rfl, by omega, .inl rfl, BtV.lf, fun h => by cases h⟩
theorem is_bss {cs : List AV} (h : (Ty.slice (.slice (.int .u8))).Is cs) : ∃ a, ∃ xs : List BtV, cs = [a] ∧ (∀ h, TView bsE h a xs) ∧ xs.length ≤ maxLen := by
  rcases h with rfl | ⟨es, rfl, h, hl⟩
  · exact ⟨_, [], rfl, fun h => view_nil' (by decide), by simp⟩
  · obtain ⟨xs, hb⟩ : ∃ xs : List BtV, es = xs.map bsE.E := by
      clear hl
      induction es with
      | nil => exact ⟨[], rfl⟩
      | cons e es ih =>
        obtain ⟨xs, hb⟩ := ih fun x hx => h x (by simp [hx])
        obtain ⟨a, bs, he, va, hl⟩ := is_bytes (h e (by simp))
        exact ⟨⟨bs, a, va, hl⟩ :: xs, by rw [hb, he]; rfl⟩
    subst hb
    have e : (xs.map bsE.E).flatten = bsE.row xs := by rw [Enc.row, List.flatMap_def]
    refine ⟨_, xs, rfl, fun h => ?_, by simpa using hl⟩
    rw [e, List.length_map]
    exact view_ro (by decide) (bsE.row_len xs)
def putR (x : BtV) : Txt := 1 :: x.b.take 200
def rowV (ℓ : Lab) (l : List Txt) : AV := if l = [] then .v (.slice none 0 0) else .own ℓ l.length 0 l.length 1 none
def rowBk (l : List Txt) : Option Blk := if l = [] then none else recB l
theorem addAll_snoc : ∀ (l : List Txt) (q : DskD × JD) (b : Txt), addAll q (l ++ [b]) = ((addAll q l).2.add (addAll q l).1 b).2
  | [], q, b => rfl
  | c :: l, q, b => addAll_snoc l _ b
theorem sumN_app : ∀ (l m : List Txt), sumN (l ++ m) = sumN l + sumN m
  | [], m => by simp [sumN]
  | b :: l, m => by show needN b.length + sumN (l ++ m) = needN b.length + sumN l + sumN m; rw [sumN_app l m]; omega
theorem arg_blk {k : Nat} {b : Txt} {X : Blk} {cap : Option Nat} (hf : Off P q p k) (hk : G[k]? = some (some X)) (hX : X.cells = b.map byteAV) (hv : X.virt = false) (hc : ∀ c, cap = some c → b.length ≤ c) : Arg G P q p (.own (.o k) b.length 0 b.length 1 cap) b := by
  have hlt := lt_of_get hk
  have hg : ∀ D B cs Y, (dj G P q p D B cs ++ Y)[k]? = some (some X) := fun D B cs Y => by
    rw [List.getElem?_append_left (by rw [dj_len]; exact hlt), dj_off hf]; exact hk
  refine ⟨fun D B cs Y L' => ?_, fun hb D B cs Y L' => ?_, fun g => rfl⟩
  · refine ⟨rfl, ?_, by simp, rfl, ?_, by omega⟩
    · simp only [Hp.sees, Hp.get, hg, Option.join_some, hX, List.length_map, if_true, List.drop_zero, Nat.mul_one]
      rw [List.take_of_length_le (by simp)]
    · unfold capOK; cases cap with
      | none => trivial
      | some c => have := hc c rfl; simp only; omega
  · simp only [Hp.isNil, Hp.get, hg, Option.join_some, hX, hv, List.length_map]
    simp
theorem app_row {G b0 b1} {l : List Txt} {b : Txt} (hr : (l.length + 1) * 24 ≤ room) : prim ⟨G, [b0, b1, some (dBlk [roAV b] false false), rowBk l]⟩ (.append 3 true 1 24) [rowV (.l 3) l, .own (.l 2) 1 0 1 1 (some 1)] =
    some (rowV (.l 3) (l ++ [b]), ⟨G, [b0, b1, some (dBlk [roAV b] false false), rowBk (l ++ [b])]⟩) := by
  have e : l ++ [b] ≠ [] := by simp
  by_cases h : l = []
  · subst h
    have hv : View ⟨G, [b0, b1, some (dBlk [roAV b] false false), none]⟩ (.own (.l 2) 1 0 1 1 (some 1)) 1 1 [roAV b] := own_view1 (j := 2) rfl rfl (by simp)
    have hr2 : 24 ≤ room := by simpa using hr
    simp only [rowV, rowBk, if_true, prim, hv.source, Option.bind_some]
    simp only [Hp.mayFreeze, if_true, Hp.freezes, Hp.freeze, roAV, Option.bind_some, Option.map_some, Hp.append, List.length_cons, List.length_nil, Nat.mul_one, Nat.zero_add]
    rw [if_neg (by omega), if_pos (by omega)]
    rfl
  · have := append_recL (G := G) (L := [b0, b1, some (dBlk [roAV b] false false), rowBk l]) (site := 3) (j := 3) (m := 2) (l := l) (b := b) (by unfold rowBk; rw [if_neg h]; rfl) rfl hr
    unfold rowV rowBk
    rw [if_neg h, if_neg h, if_neg e, if_neg e, List.length_append]
    unfold rowBk at this
    rw [if_neg h] at this
    exact this
theorem frz0 {G : List (Option Blk)} {c : AV} {Y : Option Blk} {b : Txt} (hb : b = [1]) : prim ⟨G, [some (dBlk [byteAV 1] false false), none, none, Y]⟩ (.buildSlice 2 true 1 1 [.slice none 0 0] [(0, 1)]) [.own (.l 0) 1 0 1 1 (some 1)] =
    some (.own (.l 2) 1 0 1 1 (some 1), ⟨G, [some { dBlk [byteAV 1] false false with wr := false }, none, some (dBlk [roAV b] false false), Y]⟩) := by
  subst hb; rfl
theorem app1 {G : List (Option Blk)} {Y : Option Blk} {x : AV} {d : Txt} (hd : d ≠ []) (hv : View ⟨G, [some (dBlk [byteAV 1] false false), none, none, Y]⟩ x 1 d.length (d.map byteAV)) (hr : 1 + d.length ≤ room) :
    prim ⟨G, [some (dBlk [byteAV 1] false false), none, none, Y]⟩ (.append 1 false 1 1) [.own (.l 0) 1 0 1 1 (some 1), x] = some (.own (.l 1) ((1 :: d).length * 1) 0 (1 :: d).length 1 none, ⟨G, [some (dBlk [byteAV 1] false false), some (dBlk ((1 :: d).map byteAV) true false), none, Y]⟩) := by
  have h0 : 0 < d.length := by cases d with | nil => exact absurd rfl hd | cons => simp
  have hdl : AV.lf.lfs (d.map byteAV) = true := bytes_lfs
  simp only [prim, hv.source, Option.bind_some]
  simp only [Hp.mayFreeze, Bool.false_eq_true, if_false, Hp.append, hv.hclen, if_true, Hp.get, List.getElem?_cons_zero, Option.join_some, dBlk_cells, List.length_cons, List.length_nil, Option.bind_some]
  rw [if_pos ⟨trivial, trivial, by omega, rfl⟩, if_neg (by omega), if_neg (by omega)]
  simp only [Hp.new, List.getElem?_cons_succ, List.getElem?_cons_zero, Option.map_some, List.drop_zero, dBlk, hdl, Bool.and_true, List.set_cons_succ, List.set_cons_zero, List.map_cons, Nat.mul_one, Nat.zero_add]
  rw [show 1 + d.length = d.length + 1 by omega]
  rfl
theorem app0 {G : List (Option Blk)} {Y : Option Blk} {x : AV} (hv : View ⟨G, [some (dBlk [byteAV 1] false false), none, none, Y]⟩ x 1 0 []) :
    prim ⟨G, [some (dBlk [byteAV 1] false false), none, none, Y]⟩ (.append 1 false 1 1) [.own (.l 0) 1 0 1 1 (some 1), x] = some (.own (.l 0) 1 0 1 1 (some 1), ⟨G, [some (dBlk [byteAV 1] false false), none, none, Y]⟩) := by
  have hroom : room = 140737488355328 := rfl
  simp only [prim, hv.source, Option.bind_some]
  simp only [Hp.mayFreeze, Bool.false_eq_true, if_false, Hp.append, List.length_nil, Nat.zero_mul, if_true, Hp.get, List.getElem?_cons_zero, Option.join_some, dBlk_cells, List.length_cons, Option.bind_some]
  rw [if_pos ⟨trivial, trivial, by omega, rfl⟩]
end Go.AM
namespace Go.AM
variable {prog : String → Option IFn}
variable {G L : List (Option Blk)} {P : DPos} {D : DskD} {n q p : Nat} {B : Option Blk} {cs : List AV} {J : JD}
def DB (B : Option Blk) : Prop := ∀ b, B = some b → b.labs = []
theorem DB.z : DB none := fun b h => by cases h
theorem DB.d {c : List AV} {o v : Bool} : DB (some (dBlk c o v)) := fun b h => by cases h; rfl
theorem DB.w {c : List AV} {o v w : Bool} : DB (some { dBlk c o v with wr := w }) := fun b h => by cases h; rfl
theorem DB.r {l : List Txt} : DB (rowBk l) := fun b h => by
  unfold rowBk at h
  split at h
  · cases h
  · cases h; rfl
theorem dat_4 {a b c d : Option Blk} (ha : DB a) (hb : DB b) (hc : DB c) (hd : DB d) : Dat [a, b, c, d] := by
  intro B hB x e
  simp at hB
  rcases hB with h | h | h | h <;> subst h
  · exact ha x e
  · exact hb x e
  · exact hc x e
  · exact hd x e
theorem rowV_nr {l : List Txt} : ∀ ks, 3 ∉ ks → noRef ks (rowV (.l 3) l) = true := fun ks h => by
  unfold rowV; split
  · rfl
  · rw [noRef_own]; simpa using h
end Go.AM
namespace Go.AM
variable {prog : String → Option IFn}
variable {G L : List (Option Blk)} {P : DPos} {D : DskD} {n q p : Nat} {B : Option Blk} {cs : List AV} {J : JD}
structure RowLib (prog : String → Option IFn) : Prop where
  rows : prog "haberdash/haberdashhelp.Rows" = some f_help_Rows
  same : prog "haberdash/haberdashhelp.Same[[]byte]" = some f_help_Same___byte_
  bytes : prog "haberdash/haberdashhelp.Bytes" = some f_help_Bytes
end Go.AM
