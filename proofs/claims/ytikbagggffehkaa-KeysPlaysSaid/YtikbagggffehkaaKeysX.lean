import Derived.Test.YtikbagggffehkaaAMC
import Derived.Test.YtikbagggffehkaaAME
import Derived.Test.YtikbagggffehkaaKeysIr
set_option linter.unusedVariables false
set_option linter.unusedSimpArgs false
namespace Go.AM
open Go.RowKit
variable {P : Program} {fid : String → Option FuncId} {base : Nat} {w0 : World}
theorem Rep.turned {w W M w2 W2 M2 M3} {ℓ0 : Lab} (hoff : ∀ ℓ I, ℓ ≠ ℓ0 → M2 ℓ = some I → M3 ℓ = some I) {I0 I3 : LInfo} (h0 : M ℓ0 = some I0) (h3 : M3 ℓ0 = some I3) (hlt : I0.n < I3.n) {x2 a} (h2 : Rep fid w2 W2 M2 x2 a) :
    ∀ {x}, Rep fid w W M x a → Rep fid w2 W2 M3 x2 a := by
  induction h2 with
  | v x => exact fun _ => .v _
  | dead x => exact fun _ => .dead _
  | @ptr ad ℓ n off I hM hn h =>
    intro x h1
    by_cases e : ℓ = ℓ0
    · subst e
      cases h1 with
      | ptr hM1 hn1 _ =>
        rw [h0] at hM1; cases hM1
        exact .ptr h3 (by omega) fun e => by omega
    · exact .ptr (hoff ℓ I e hM) hn h
  | @own y ℓ n off len esz cap I hM hn h hlen =>
    intro x h1
    by_cases e : ℓ = ℓ0
    · subst e
      cases h1 with
      | own hM1 hn1 _ _ =>
        rw [h0] at hM1; cases hM1
        exact .own h3 (by omega) (fun e => by omega) hlen
    · exact .own (hoff ℓ I e hM) hn h hlen
  | ro us hlen hlf h hc _ => exact fun _ => .ro us hlen hlf h fun i a ha => (hc i a ha).lf_any (lfs_get hlf ha)
  | rop us hlf h hc _ => exact fun _ => .rop us hlf h fun i a ha => (hc i a ha).lf_any (lfs_get hlf ha)
  | @fn f id first caps fs cs hf e1 _ e2 _ ih1 ih2 =>
    intro x h1
    cases h1 with
    | @fn _ _ _ _ fs' cs' hf' e1' c1' e2' c2' =>
      refine .fn hf e1 (fun i x a hx ha => ?_) e2 fun i x a hx ha => ?_
      · have hi : i < fs'.length := by rw [e1']; exact (List.getElem?_eq_some_iff.1 ha).1
        exact ih1 i x a hx ha (c1' i _ a (List.getElem?_eq_getElem hi) ha)
      · have hi : i < cs'.length := by rw [e2']; exact (List.getElem?_eq_some_iff.1 ha).1
        exact ih2 i x a hx ha (c2' i _ a (List.getElem?_eq_getElem hi) ha)
  | @agg xs as e1 e2 _ ih =>
    intro x h1
    cases h1 with
    | @agg xs' _ e1' _ c1' =>
      refine .agg e1 e2 fun i x a hx ha => ?_
      have hi : i < xs'.length := by rw [e1']; exact (List.getElem?_eq_some_iff.1 ha).1
      exact ih i x a hx ha (c1' i _ a (List.getElem?_eq_getElem hi) ha)
  | @tup xs as e1 _ ih =>
    intro x h1
    cases h1 with
    | @tup xs' _ e1' c1' =>
      refine .tup e1 fun i x a hx ha => ?_
      have hi : i < xs'.length := by rw [e1']; exact (List.getElem?_eq_some_iff.1 ha).1
      exact ih i x a hx ha (c1' i _ a (List.getElem?_eq_getElem hi) ha)
theorem sim_turned {w w' : World} {μ μ2 : Lab → Nat × Nat} {get get2 : Lab → Option Blk} (S : Sim fid base w0 w μ get) (S2 : Sim fid base w0 w' μ2 get2) (p2 : Pres w (Wr μ get) (info μ get) w' (Wr μ2 get2) (info μ2 get2))
    {p m : Lab} {B Bn Bt : Blk} (hb : get p = some B) (hm : get2 m = some Bn) (hv : Bn.virt = false) (hother : ∀ ℓ, ℓ ≠ p → ∀ B0, get ℓ = some B0 → get2 ℓ = some B0 ∧ ℓ ≠ m)
    (hwr : Bt.wr = true → Bn.wr = true) (hvt : Bt.virt = false) (hlf : AV.lf.lfs Bt.cells = true) (hpre : ∀ (i : Nat) a, Bt.cells[i]? = some a → Bn.cells[i]? = some a)
    (hop : Bt.opn = true) (hpl : Bt.plain = false) (hlt : B.cells.length < Bt.cells.length) (hle : Bt.cells.length ≤ Bn.cells.length) :
    Sim fid base w0 w' (upd μ2 p (μ2 m)) (upd get p (some Bt)) ∧ Pres w (Wr μ get) (info μ get) w' (Wr (upd μ2 p (μ2 m)) (upd get p (some Bt))) (info (upd μ2 p (μ2 m)) (upd get p (some Bt))) := by
  have hWs : ∀ b, Wr (upd μ2 p (μ2 m)) (upd get p (some Bt)) b → Wr μ2 get2 b := by
    rintro b ⟨ℓ, C, h1, h2, h3, h4⟩
    by_cases e : ℓ = p
    · subst e
      simp only [upd, if_true] at h1 h4
      cases h1
      exact ⟨m, Bn, hm, hwr h2, hv, h4⟩
    · simp only [upd, if_neg e] at h1 h4
      exact ⟨ℓ, C, (hother ℓ e C h1).1, h2, h3, h4⟩
  have hip : info (upd μ2 p (μ2 m)) (upd get p (some Bt)) p = some ⟨(μ2 m).1, Bt.cells.length, Bt.virt, (μ2 m).2⟩ := by simp [info, upd]
  have hio : ∀ ℓ I, ℓ ≠ p → info μ get ℓ ≠ none → info μ2 get2 ℓ = some I → info (upd μ2 p (μ2 m)) (upd get p (some Bt)) ℓ = some I := by
    intro ℓ I e hne hI
    cases hg : get ℓ with
    | none => simp [info, hg] at hne
    | some C =>
      simp only [info, upd, if_neg e]
      simp only [info, (hother ℓ e C hg).1] at hI
      rw [hg]; exact hI
  have hpres : Pres w (Wr μ get) (info μ get) w' (Wr (upd μ2 p (μ2 m)) (upd get p (some Bt))) (info (upd μ2 p (μ2 m)) (upd get p (some Bt))) := by
    refine ⟨p2.heap, fun b hb' h => p2.wr b hb' (hWs b h), fun ℓ I hI => ?_, p2.size⟩
    by_cases e : ℓ = p
    · subst e
      refine ⟨_, hip, .inr ?_⟩
      simp only [info, hb, Option.map_some, Option.some.injEq] at hI
      subst hI
      exact hlt
    · obtain ⟨I', h1, h2⟩ := p2.lab ℓ I hI
      exact ⟨I', hio ℓ I' e (by rw [hI]; simp) h1, h2⟩
  refine ⟨⟨S2.below, S2.le, fun ℓ C hC => ?_, fun ℓ1 ℓ2 C1 C2 h1 h2 v1 v2 e => ?_⟩, hpres⟩
  · by_cases e : ℓ = p
    · subst e
      simp only [upd, if_true] at hC ⊢
      cases hC
      refine ⟨fun h => by rw [hvt] at h; (cases h), fun _ => hlf, fun _ => ?_⟩
      obtain ⟨c, ty, lo, hi, k1, k2, k3, k4, k5, k6, k7, k8⟩ := (S2.ok.blk m Bn hm).row hv
      refine ⟨c, ty, lo, hi, k1, k2, k3.imp id fun h => ⟨h.1, hpl⟩, by omega, fun h => by rw [hop] at h; (cases h), k6, k7, fun i a ha => ?_⟩
      obtain ⟨x, hx, r⟩ := k8 i a (hpre i a ha)
      have r3 := r.lf_any (M' := info (upd μ2 ℓ (μ2 m)) (upd get ℓ (some Bt))) (lfs_get hlf ha)
      exact ⟨x, hx, r3.pres ⟨fun _ _ _ => rfl, fun b _ h => hWs b h, fun ℓ I h => ⟨I, h, .inl rfl⟩, Nat.le_refl _⟩⟩
    · simp only [upd, if_neg e] at hC ⊢
      have hC2 := (hother ℓ e C hC).1
      have b2 := S2.ok.blk ℓ C hC2
      have b1 := S.ok.blk ℓ C hC
      refine ⟨b2.virt, b2.data, fun hv' => ?_⟩
      obtain ⟨c, ty, lo, hi, k1, k2, k3, k4, k5, k6, k7, k8⟩ := b2.row hv'
      obtain ⟨c', ty', lo', hi', j1, j2, j3, j4, j5, j6, j7, j8⟩ := b1.row hv'
      refine ⟨c, ty, lo, hi, k1, k2, k3, k4, k5, k6, k7, fun i a ha => ?_⟩
      obtain ⟨x, hx, r⟩ := k8 i a ha
      obtain ⟨x', hx', r'⟩ := j8 i a ha
      have h0 : info μ get p = some ⟨(μ p).1, B.cells.length, B.virt, (μ p).2⟩ := by simp [info, hb]
      have hl := r'.live
      have r3 : Rep fid w' (Wr μ2 get2) (fun ℓ => if info μ get ℓ = none then none else info μ2 get2 ℓ) x a := r.labs fun ℓ' hℓ I hI => by
        obtain ⟨I', hI'⟩ := hl ℓ' hℓ
        simp only [hI', reduceCtorEq, if_false]
        exact hI
      have r4 := Rep.turned (M3 := info (upd μ2 p (μ2 m)) (upd get p (some Bt))) (ℓ0 := p) (fun ℓ' I' e' h' => by
        split at h'
        · cases h'
        · rename_i hne; exact hio ℓ' I' e' hne h') h0 hip hlt r3 r'
      exact ⟨x, hx, r4.pres ⟨fun _ _ _ => rfl, fun b _ h => hWs b h, fun ℓ I h => ⟨I, h, .inl rfl⟩, Nat.le_refl _⟩⟩
  · by_cases e1 : ℓ1 = p
    · by_cases e2 : ℓ2 = p
      · rw [e1, e2]
      · exfalso
        subst e1
        simp only [upd, if_true, if_neg e2] at h1 h2 e
        obtain ⟨g1, g2⟩ := hother ℓ2 e2 C2 h2
        exact g2 (S2.ok.inj m ℓ2 Bn C2 hm g1 hv v2 e).symm
    · by_cases e2 : ℓ2 = p
      · exfalso
        subst e2
        simp only [upd, if_true, if_neg e1] at h1 h2 e
        obtain ⟨g1, g2⟩ := hother ℓ1 e1 C1 h1
        exact g2 (S2.ok.inj ℓ1 m C1 Bn g1 hm v1 hv e)
      · simp only [upd, if_neg e1, if_neg e2] at h1 h2 e
        exact S2.ok.inj _ _ _ _ (hother ℓ1 e1 C1 h1).1 (hother ℓ2 e2 C2 h2).1 v1 v2 e
end Go.AM
namespace Go.AM
variable {prog : String → Option IFn}
theorem freeze_lf {h : Hp} {a : AV} (ha : a.lf = true) : h.freeze a = some (a, h) := by
  cases a <;> first | rfl | simp [AV.lf] at ha
theorem freezes_lf : ∀ {cs : List AV} {h : Hp}, AV.lf.lfs cs = true → h.freezes cs = some (cs, h)
  | [], h, _ => rfl
  | a :: as, h, hl => by
    simp only [AV.lf.lfs, Bool.and_eq_true] at hl
    simp only [Hp.freezes, freeze_lf hl.1, Option.bind_some, freezes_lf hl.2, Option.map_some]
theorem sliceLo_own {h : Hp} {esz ℓ n off len cap k} {i : Nat} (hi : i ≤ len) : prim h (.slice esz true false false) [.own ℓ n off len esz cap, .v (.int k i)] = some (.own ℓ n (off + i * esz) (len - i) esz (cap.map (· - i)), h) := by
  rw [px_slice_own, if_pos rfl]
  simp only [bounds, natOf_nat, Option.bind_some, if_pos hi]
theorem sliceHi_own {h : Hp} {esz ℓ n off len cap k} {j : Nat} (hj : leCap len cap j = true) : prim h (.slice esz false true false) [.own ℓ n off len esz cap, .v (.int k j)] = some (.own ℓ n (off + 0 * esz) (j - 0) esz cap, h) := by
  rw [px_slice_own, if_pos rfl]
  simp only [bounds, natOf_nat, Option.bind_some, hj, if_true, Nat.zero_le]
theorem copy_ow {h : Hp} {esz ℓ n off len cap ℓ' n' off' len' cap'} {B B' : Blk} (hB : h.get ℓ = some B) (hB' : h.get ℓ' = some B') (hn : B.cells.length = n) (hn' : B'.cells.length = n') (hwr : B.wr = true)
    (hin : off + len * esz ≤ n) (hin' : off' + len' * esz ≤ n') (hput : okPut ℓ ((B'.cells.drop off').take (len' * esz)) = true) (h0 : 0 < Nat.min len' len) :
    prim h (.copy esz) [.own ℓ n off len esz cap, .own ℓ' n' off' len' esz cap'] = some (.v (goInt (Nat.min len' len)), h.put ℓ (some { B with
      cells := lay B.cells off (((B'.cells.drop off').take (len' * esz)).take (Nat.min len' len * esz)), data := B.data && AV.lf.lfs (((B'.cells.drop off').take (len' * esz)).take (Nat.min len' len * esz)) })) := by
  have hs : h.source (.own ℓ' n' off' len' esz cap') = some (len', (B'.cells.drop off').take (len' * esz)) := by
    simp only [Hp.source, lenOf, Hp.sees, hB', if_pos hn']
  simp only [prim, lenOf, Option.bind_some, hs]
  rw [if_pos (by simp; omega)]
  unfold Hp.copyInto
  rw [if_neg (by omega)]
  simp only [hB]
  rw [if_pos ⟨hn, hwr, trivial, Nat.min_le_right _ _, hin, hput⟩]
  rfl
theorem leave_o {h : Hp} {p n off len esz cap} : h.leave (.own (.o p) n off len esz cap) = some (.own (.o p) n off len esz cap, h.G) := by
  simp [Hp.leave, AV.labs, collect, outBlks, AV.ren, keepMap]
abbrev insNm : String := "slices.Insert[[]haberdash/api.Seen,haberdash/api.Seen]"
theorem ins_in (hf : prog insNm = some f_slices_Insert___api_Seen_api_Seen_) {G : List (Option Blk)} {p q N len i C : Nat} {cs vs : List AV} {wv : Bool} {wq : Bool}
    (hp : G[p]? = some (some { cells := cs, opn := false, wr := true, data := true, virt := false })) (hq : G[q]? = some (some { cells := vs, opn := wq, wr := wv, data := true, virt := false, plain := true })) (hne : p ≠ q)
    (hN : cs.length = N) (hv : vs.length = 3) (hi : i < len) (hC : len + 1 ≤ C) (hCN : C * 3 ≤ N) (hlf : AV.lf.lfs vs = true) (hlc : AV.lf.lfs cs = true) (hb : len < 1000000) :
    Ev prog (.call insNm [.own (.o p) N 0 len 3 (some C), .v (.int .i64 i), .own (.o q) 3 0 1 3 (some 1)] G)
      (.ret (.own (.o p) N 0 (len + 1) 3 (some C)) (G.set p (some { cells := lay (lay cs ((i + 1) * 3) ((cs.drop (i * 3)).take ((len - i) * 3))) (i * 3) vs, opn := false, wr := true, data := true, virt := false }))) := by
  have hlt : p < G.length := lt_of_get hp
  refine call_of_fin hf ?_
  simp only [f_slices_Insert___api_Seen_api_Seen__B, enter, List.length_cons, List.length_nil, List.replicate, Nat.reduceAdd, Nat.reduceSub, List.cons_append, List.nil_append]
  have e1 : ∀ L, prim ⟨G, L⟩ (.slice 3 true false false) [.own (.o p) N 0 len 3 (some C), .v (.int .i64 i)] = some (.own (.o p) N (i * 3) (len - i) 3 (some (C - i)), ⟨G, L⟩) := fun L => by
    rw [sliceLo_own (by omega), Nat.zero_add]; rfl
  have a1 : vBin .add (.int .i64 len) (.int .i64 1) = some (.int .i64 ((len + 1 : Nat) : Int)) := by
    simp only [vBin]; rw [if_neg (by simp)]; congr 2; rw [IntKind.wrap_i64]; omega
  have a2 : vBin .add (.int .i64 i) (.int .i64 1) = some (.int .i64 ((i + 1 : Nat) : Int)) := by
    simp only [vBin]; rw [if_neg (by simp)]; congr 2; rw [IntKind.wrap_i64]; omega
  have h1 : ((1 : Int) == (0 : Int)) = false := rfl
  have h2 : ((i : Int) == (len : Int)) = false := by simp; omega
  have h3 : decide (((len + 1 : Nat) : Int) > (C : Int)) = false := by simp; omega
  have e2 : ∀ L, prim ⟨G, L⟩ (.slice 3 false true false) [.own (.o p) N 0 len 3 (some C), .v (.int .i64 ((len + 1 : Nat) : Int))] = some (.own (.o p) N 0 (len + 1) 3 (some C), ⟨G, L⟩) := fun L => by
    rw [sliceHi_own (by simp [leCap]; omega)]; simp
  have e3 : ∀ (G : List (Option Blk)) L, prim ⟨G, L⟩ (.slice 3 true false false) [.own (.o p) N 0 (len + 1) 3 (some C), .v (.int .i64 ((i + 1 : Nat) : Int))] = some (.own (.o p) N ((i + 1) * 3) (len + 1 - (i + 1)) 3 (some (C - (i + 1))), ⟨G, L⟩) := fun G L => by
    rw [sliceLo_own (by omega), Nat.zero_add]; rfl
  have e4 : ∀ (G : List (Option Blk)) L, prim ⟨G, L⟩ (.slice 3 true false false) [.own (.o p) N 0 (len + 1) 3 (some C), .v (.int .i64 i)] = some (.own (.o p) N (i * 3) (len + 1 - i) 3 (some (C - i)), ⟨G, L⟩) := fun G L => by
    rw [sliceLo_own (by omega), Nat.zero_add]; rfl
  have gp : ∀ L, (⟨G, L⟩ : Hp).get (.o p) = some { cells := cs, opn := false, wr := true, data := true, virt := false } := fun L => by simp only [Hp.get, hp]; rfl
  have gq : ∀ L, (⟨G, L⟩ : Hp).get (.o q) = some { cells := vs, opn := wq, wr := wv, data := true, virt := false, plain := true } := fun L => by simp only [Hp.get, hq]; rfl
  have ov : ∀ L, prim ⟨G, L⟩ .overlaps [.own (.o q) 3 0 1 3 (some 1), .own (.o p) N ((i + 1) * 3) (len + 1 - (i + 1)) 3 (some (C - (i + 1)))] = some (.v (.bool false), ⟨G, L⟩) := fun L => by
    rw [px_overlaps, gp, gq]
    simp only
    rw [if_pos ⟨by intro h; cases h; exact hne rfl, hv, hN, trivial, trivial, trivial, by omega, by omega, by omega, by omega⟩]
  obtain ⟨X, hX⟩ : ∃ X, X = (cs.drop (i * 3)).take ((len - i) * 3) := ⟨_, rfl⟩
  have hXl : X.length = (len - i) * 3 := by rw [hX]; simp; omega
  have hXf : AV.lf.lfs X = true := by rw [hX]; exact lfs_take (lfs_drop hlc _) _
  have eX : ((cs.drop (i * 3)).take ((len + 1 - i) * 3)).take ((Nat.min (len + 1 - i) (len + 1 - (i + 1))) * 3) = X := by
    rw [hX, List.take_take]
    congr 1
    have : Nat.min (len + 1 - i) (len + 1 - (i + 1)) = len - i := by show min _ _ = _; omega
    rw [this]; omega
  have c1 : ∀ L, prim ⟨G, L⟩ (.copy 3) [.own (.o p) N ((i + 1) * 3) (len + 1 - (i + 1)) 3 (some (C - (i + 1))), .own (.o p) N (i * 3) (len + 1 - i) 3 (some (C - i))] =
      some (.v (goInt (Nat.min (len + 1 - i) (len + 1 - (i + 1)))), ⟨G.set p (some { cells := lay cs ((i + 1) * 3) X, opn := false, wr := true, data := true, virt := false }), L⟩) := fun L => by
    rw [copy_ow (gp L) (gp L) hN hN rfl (by omega) (by omega) (by simp only [okPut]; rw [lfs_take (lfs_drop hlc _) _]; rfl) (by show 0 < min _ _; omega)]
    rw [eX, hXf]; rfl
  obtain ⟨G1, hG1⟩ : ∃ G1, G1 = G.set p (some { cells := lay cs ((i + 1) * 3) X, opn := false, wr := true, data := true, virt := false }) := ⟨_, rfl⟩
  rw [← hG1] at c1
  have hl1 : (lay cs ((i + 1) * 3) X).length = N := by simp only [lay, List.length_append, List.length_take, List.length_drop, hXl, hN]; omega
  have gp1 : ∀ L, (⟨G1, L⟩ : Hp).get (.o p) = some { cells := lay cs ((i + 1) * 3) X, opn := false, wr := true, data := true, virt := false } := fun L => by
    simp only [Hp.get, hG1, List.getElem?_set, if_true, if_pos hlt]; rfl
  have gq1 : ∀ L, (⟨G1, L⟩ : Hp).get (.o q) = some { cells := vs, opn := wq, wr := wv, data := true, virt := false, plain := true } := fun L => by
    simp only [Hp.get, hG1, List.getElem?_set, if_neg hne, hq]; rfl
  have eV : ((vs.drop 0).take (1 * 3)).take (Nat.min 1 (len + 1 - i) * 3) = vs := by
    have : Nat.min 1 (len + 1 - i) = 1 := by show min _ _ = _; omega
    rw [this, List.take_take, List.drop_zero, List.take_of_length_le (by omega)]
  have c2 : ∀ L, prim ⟨G1, L⟩ (.copy 3) [.own (.o p) N (i * 3) (len + 1 - i) 3 (some (C - i)), .own (.o q) 3 0 1 3 (some 1)] =
      some (.v (goInt (Nat.min 1 (len + 1 - i))), ⟨G.set p (some { cells := lay (lay cs ((i + 1) * 3) X) (i * 3) vs, opn := false, wr := true, data := true, virt := false }), L⟩) := fun L => by
    rw [copy_ow (gp1 L) (gq1 L) hl1 hv rfl (by omega) (by omega) (by simp only [okPut]; rw [lfs_take (lfs_drop hlf _) _]; rfl) (by show 0 < min _ _; omega)]
    rw [eV, hlf, hG1]
    simp only [Hp.put, List.set_set, Bool.and_self]
  have lenV : ∀ {h : Hp}, prim h .lenSlice [.own (.o q) 3 0 1 3 (some 1)] = some (.v (.int .i64 1), h) := rfl
  have lenP : ∀ {h : Hp}, prim h .lenSlice [.own (.o p) N 0 len 3 (some C)] = some (.v (.int .i64 len), h) := rfl
  have capP : ∀ {h : Hp}, prim h .cap [.own (.o p) N 0 len 3 (some C)] = some (.v (.int .i64 C), h) := rfl
  simp (disch := first | (simp only [DS, reduceCtorEq]; done) | omega) only [WS, St.guard, St.put, evalO, reduceCtorEq, reduceIte, Nat.reduceAdd, Nat.reduceEqDiff, e1, lenV, lenP, capP, vBin_eql, a1, a2, h1, h2, h3, e2, e3, e4, ov, vBin_gtr]
  refine WDP_loud (by exact c1 _) (by rfl) ?_
  simp (disch := first | (simp only [DS, reduceCtorEq]; done) | omega) only [WS, St.guard, St.put, evalO, reduceCtorEq, reduceIte, Nat.reduceAdd, Nat.reduceEqDiff, e4, c2, fin_tmp, leave_o]
  exact ⟨by simp, by rw [hX]⟩
def seenZ : List Value := [.string ⟨#[]⟩, .slice none 0 0, .slice none 0 0]
def insZ (k : Nat) : List AV := (List.replicate k (seenZ.map AV.v)).flatten
theorem insZ_len (k : Nat) : (insZ k).length = k * 3 := by simp [insZ, seenZ]
theorem insZ_lf (k : Nat) : AV.lf.lfs (insZ k) = true := by
  rw [lfs_iff]
  intro a ha
  obtain ⟨l, hl, ha⟩ := List.mem_flatten.1 ha
  rw [List.mem_replicate] at hl
  rw [hl.2] at ha
  simp only [seenZ, List.map_cons, List.map_nil, List.mem_cons, List.not_mem_nil, or_false] at ha
  rcases ha with rfl | rfl | rfl <;> rfl
theorem ins_out (hf : prog insNm = some f_slices_Insert___api_Seen_api_Seen_) {G : List (Option Blk)} {p q N len i C : Nat} {cs vs : List AV} {wv : Bool} {wq : Bool}
    (hp : G[p]? = some (some { cells := cs, opn := false, wr := true, data := true, virt := false })) (hq : G[q]? = some (some { cells := vs, opn := wq, wr := wv, data := true, virt := false, plain := true })) (hne : p ≠ q)
    (hN : cs.length = N) (hv : vs.length = 3) (hi : i < len) (hC : C < len + 1) (hlC : len ≤ C) (hCN : C * 3 ≤ N) (hlf : AV.lf.lfs vs = true) (hlc : AV.lf.lfs cs = true) (hb : len < 1000000) :
    Ev prog (.call insNm [.own (.o p) N 0 len 3 (some C), .v (.int .i64 i), .own (.o q) 3 0 1 3 (some 1)] G)
      (.ret (.own (.o G.length) ((len + 1) * 3) 0 (len + 1) 3 none) (G ++ [some { cells := lay (lay (cs.take (i * 3) ++ insZ (len + 1 - i)) (i * 3) vs) ((i + 1) * 3) ((cs.drop (i * 3)).take ((len - i) * 3)), opn := true, wr := true, data := true, virt := false }])) := by
  have hlt : p < G.length := lt_of_get hp
  refine call_of_fin hf ?_
  simp only [f_slices_Insert___api_Seen_api_Seen__B, enter, List.length_cons, List.length_nil, List.replicate, Nat.reduceAdd, Nat.reduceSub, List.cons_append, List.nil_append]
  have e1 : ∀ L, prim ⟨G, L⟩ (.slice 3 true false false) [.own (.o p) N 0 len 3 (some C), .v (.int .i64 i)] = some (.own (.o p) N (i * 3) (len - i) 3 (some (C - i)), ⟨G, L⟩) := fun L => by
    rw [sliceLo_own (by omega), Nat.zero_add]; rfl
  have a1 : vBin .add (.int .i64 len) (.int .i64 1) = some (.int .i64 ((len + 1 : Nat) : Int)) := by
    simp only [vBin]; rw [if_neg (by simp)]; congr 2; rw [IntKind.wrap_i64]; omega
  have a2 : vBin .add (.int .i64 i) (.int .i64 1) = some (.int .i64 ((i + 1 : Nat) : Int)) := by
    simp only [vBin]; rw [if_neg (by simp)]; congr 2; rw [IntKind.wrap_i64]; omega
  have a3 : vBin .sub (.int .i64 ((len + 1 : Nat) : Int)) (.int .i64 i) = some (.int .i64 ((len + 1 - i : Nat) : Int)) := by
    simp only [vBin]; rw [if_neg (by simp)]; congr 2; rw [IntKind.wrap_i64]; omega
  have h1 : ((1 : Int) == (0 : Int)) = false := rfl
  have h2 : ((i : Int) == (len : Int)) = false := by simp; omega
  have h3 : decide (((len + 1 : Nat) : Int) > (C : Int)) = true := by simp; omega
  have e2 : ∀ L, prim ⟨G, L⟩ (.slice 3 false true false) [.own (.o p) N 0 len 3 (some C), .v (.int .i64 (i : Int))] = some (.own (.o p) N 0 i 3 (some C), ⟨G, L⟩) := fun L => by
    rw [sliceHi_own (by simp [leCap]; omega)]; simp
  have e3 : ∀ L, prim ⟨G, L⟩ (.slice 3 true false false) [.own (.l 1) ((len + 1) * 3) 0 (len + 1) 3 none, .v (.int .i64 ((i + 1 : Nat) : Int))] = some (.own (.l 1) ((len + 1) * 3) ((i + 1) * 3) (len + 1 - (i + 1)) 3 none, ⟨G, L⟩) := fun L => by
    rw [sliceLo_own (by omega), Nat.zero_add]; rfl
  have e4 : ∀ L, prim ⟨G, L⟩ (.slice 3 true false false) [.own (.l 1) ((len + 1) * 3) 0 (len + 1) 3 none, .v (.int .i64 i)] = some (.own (.l 1) ((len + 1) * 3) (i * 3) (len + 1 - i) 3 none, ⟨G, L⟩) := fun L => by
    rw [sliceLo_own (by omega), Nat.zero_add]; rfl
  have gp : ∀ L, (⟨G, L⟩ : Hp).get (.o p) = some { cells := cs, opn := false, wr := true, data := true, virt := false } := fun L => by simp only [Hp.get, hp]; rfl
  have gq : ∀ L, (⟨G, L⟩ : Hp).get (.o q) = some { cells := vs, opn := wq, wr := wv, data := true, virt := false, plain := true } := fun L => by simp only [Hp.get, hq]; rfl
  obtain ⟨Z, hZ⟩ : ∃ Z, Z = cs.take (i * 3) ++ insZ (len + 1 - i) := ⟨_, rfl⟩
  have hZl : Z.length = (len + 1) * 3 := by rw [hZ]; simp [insZ_len]; omega
  have hroom : room = 140737488355328 := rfl
  have ap : prim ⟨G, [none, none]⟩ (.appendZ 1 3 64 [.string ⟨#[]⟩, .slice none 0 0, .slice none 0 0]) [.own (.o p) N 0 i 3 (some C), .v (.int .i64 ((len + 1 - i : Nat) : Int))] =
      some (.own (.l 1) ((len + 1) * 3) 0 (len + 1) 3 none, ⟨G, [none, some { cells := Z, opn := true, wr := true, data := true, virt := false }]⟩) := by
    rw [px_appendZ, natOf_nat, Option.bind_some, if_pos ⟨by omega, rfl⟩]
    show Hp.append _ _ _ _ _ _ (insZ (len + 1 - i)) = _
    simp only [Hp.append, insZ_len, if_true, gp]
    rw [if_pos ⟨hN, trivial, by omega, by simp only [okPut, insZ_lf, Bool.true_or]⟩, if_neg (by omega), if_neg (by omega), new_s rfl]
    simp only [Option.map_some, List.drop_zero, insZ_lf, Bool.and_self, ← hZ, List.set_cons_succ, List.set_cons_zero]
    rw [show i + (len + 1 - i) = len + 1 by omega]
  obtain ⟨Y, hY⟩ : ∃ Y, Y = lay Z (i * 3) vs := ⟨_, rfl⟩
  have hYl : Y.length = (len + 1) * 3 := by rw [hY]; simp only [lay, List.length_append, List.length_take, List.length_drop, hZl, hv]; omega
  have eV : ((vs.drop 0).take (1 * 3)).take (Nat.min 1 (len + 1 - i) * 3) = vs := by
    have : Nat.min 1 (len + 1 - i) = 1 := by show min _ _ = _; omega
    rw [this, List.take_take, List.drop_zero, List.take_of_length_le (by omega)]
  have g1 : (⟨G, [none, some { cells := Z, opn := true, wr := true, data := true, virt := false }]⟩ : Hp).get (.l 1) = some { cells := Z, opn := true, wr := true, data := true, virt := false } := rfl
  have c1 : prim ⟨G, [none, some { cells := Z, opn := true, wr := true, data := true, virt := false }]⟩ (.copy 3) [.own (.l 1) ((len + 1) * 3) (i * 3) (len + 1 - i) 3 none, .own (.o q) 3 0 1 3 (some 1)] =
      some (.v (goInt (Nat.min 1 (len + 1 - i))), ⟨G, [none, some { cells := Y, opn := true, wr := true, data := true, virt := false }]⟩) := by
    rw [copy_ow g1 (gq _) hZl hv rfl (by omega) (by omega) rfl (by show 0 < min _ _; omega)]
    rw [eV, hlf]
    simp only [Hp.put, ← hY, List.set_cons_succ, List.set_cons_zero, Bool.and_self]
  obtain ⟨X, hX⟩ : ∃ X, X = (cs.drop (i * 3)).take ((len - i) * 3) := ⟨_, rfl⟩
  have hXf : AV.lf.lfs X = true := by rw [hX]; exact lfs_take (lfs_drop hlc _) _
  have eX : ((cs.drop (i * 3)).take ((len - i) * 3)).take ((Nat.min (len - i) (len + 1 - (i + 1))) * 3) = X := by
    rw [hX, List.take_take]
    congr 1
    have : Nat.min (len - i) (len + 1 - (i + 1)) = len - i := by show min _ _ = _; omega
    rw [this]; omega
  have g2 : (⟨G, [none, some { cells := Y, opn := true, wr := true, data := true, virt := false }]⟩ : Hp).get (.l 1) = some { cells := Y, opn := true, wr := true, data := true, virt := false } := rfl
  have c2 : prim ⟨G, [none, some { cells := Y, opn := true, wr := true, data := true, virt := false }]⟩ (.copy 3) [.own (.l 1) ((len + 1) * 3) ((i + 1) * 3) (len + 1 - (i + 1)) 3 none, .own (.o p) N (i * 3) (len - i) 3 (some (C - i))] =
      some (.v (goInt (Nat.min (len - i) (len + 1 - (i + 1)))), ⟨G, [none, some { cells := lay Y ((i + 1) * 3) X, opn := true, wr := true, data := true, virt := false }]⟩) := by
    rw [copy_ow g2 (gp _) hYl hN rfl (by omega) (by omega) rfl (by show 0 < min _ _; omega)]
    rw [eX, hXf]
    simp only [Hp.put, List.set_cons_succ, List.set_cons_zero, Bool.and_self]
  have lenV : ∀ {h : Hp}, prim h .lenSlice [.own (.o q) 3 0 1 3 (some 1)] = some (.v (.int .i64 1), h) := rfl
  have lenP : ∀ {h : Hp}, prim h .lenSlice [.own (.o p) N 0 len 3 (some C)] = some (.v (.int .i64 len), h) := rfl
  have capP : ∀ {h : Hp}, prim h .cap [.own (.o p) N 0 len 3 (some C)] = some (.v (.int .i64 C), h) := rfl
  simp (disch := first | (simp only [DS, reduceCtorEq]; done) | omega) only [WS, St.guard, St.put, evalO, reduceCtorEq, reduceIte, Nat.reduceAdd, Nat.reduceEqDiff, e1, lenV, lenP, capP, vBin_eql, a1, a2, a3, h1, h2, h3, e2, e3, e4, vBin_gtr, ap, c1]
  refine WDP_loud (by exact c2) (by rfl) ?_
  simp (disch := first | (simp only [DS, reduceCtorEq]; done) | omega) only [WS, St.guard, St.put, evalO, reduceCtorEq, reduceIte, Nat.reduceAdd, Nat.reduceEqDiff, fin_tmp]
  refine ⟨by simp, ?_⟩
  rw [← hX, ← hZ, ← hY]
  exact leave_own1 (j := 1) rfl rfl
theorem ins_end (hf : prog insNm = some f_slices_Insert___api_Seen_api_Seen_) {G : List (Option Blk)} {p q len : Nat} {B V : Blk} (hp : G[p]? = some (some B)) (hq : G[q]? = some (some V)) (hne : p ≠ q)
    (b1 : B.cells.length = len * 3) (b2 : B.opn = true) (b3 : B.wr = true) (b4 : B.virt = false) (b5 : B.plain = false) (b6 : B.data = true) (b7 : AV.lf.lfs V.cells = true) (v1 : V.cells.length = 3) (l0 : 0 < len) (l1 : len < 1000000) :
    Ev prog (.call insNm [.own (.o p) (len * 3) 0 len 3 none, .v (.int .i64 (len : Int)), .own (.o q) 3 0 1 3 (some 1)] G)
      (.ret (.own (.o p) ((len + 1) * 3) 0 (len + 1) 3 none) (G.set p (some { B with cells := B.cells ++ V.cells }))) := by
  have hlt : p < G.length := lt_of_get hp
  refine call_of_fin hf ?_
  simp only [f_slices_Insert___api_Seen_api_Seen__B, enter, List.length_cons, List.length_nil, List.replicate, Nat.reduceAdd, Nat.reduceSub, List.cons_append, List.nil_append]
  have hroom : room = 140737488355328 := rfl
  have e1 : ∀ L, prim ⟨G, L⟩ (.slice 3 true false false) [.own (.o p) (len * 3) 0 len 3 none, .v (.int .i64 len)] = some (.own (.o p) (len * 3) (len * 3) (len - len) 3 none, ⟨G, L⟩) := fun L => by
    rw [sliceLo_own (by omega), Nat.zero_add]; rfl
  have gp : ∀ L, (⟨G, L⟩ : Hp).get (.o p) = some B := fun L => by simp only [Hp.get, hp]; rfl
  have gq : ∀ L, (⟨G, L⟩ : Hp).get (.o q) = some V := fun L => by simp only [Hp.get, hq]; rfl
  have h1 : ((1 : Int) == (0 : Int)) = false := rfl
  have h2 : ((len : Int) == (len : Int)) = true := by simp
  have fz : ∀ h : Hp, h.freezes V.cells = some (V.cells, h) := fun h => freezes_lf b7
  have hs : ∀ L, (⟨G, L⟩ : Hp).source (.own (.o q) 3 0 1 3 (some 1)) = some (1, V.cells) := fun L => by
    simp only [Hp.source, lenOf, Hp.sees, gq, if_pos v1, List.drop_zero]
    rw [List.take_of_length_le (by omega)]
  have ap : ∀ L, prim ⟨G, L⟩ (.append 0 true 3 64) [.own (.o p) (len * 3) 0 len 3 none, .own (.o q) 3 0 1 3 (some 1)] =
      some (.own (.o p) ((len + 1) * 3) 0 (len + 1) 3 none, ⟨G.set p (some { B with cells := B.cells ++ V.cells }), L⟩) := fun L => by
    simp only [prim, hs, Option.bind_some, Hp.mayFreeze, if_true, fz, Hp.append, v1, Nat.one_mul, gp]
    rw [if_pos ⟨b1, trivial, by omega, by simp only [okPut, b7, Bool.true_or]⟩, if_neg (by omega), if_neg (by simp [b3]), if_neg (by omega), if_pos ⟨trivial, b2⟩]
    rw [List.take_of_length_le (by omega), b7, b6]
    simp only [Hp.put, Bool.and_self]
    congr 5
    cases B; simp_all
  have lenV : ∀ {h : Hp}, prim h .lenSlice [.own (.o q) 3 0 1 3 (some 1)] = some (.v (.int .i64 1), h) := rfl
  have lenP : ∀ {h : Hp}, prim h .lenSlice [.own (.o p) (len * 3) 0 len 3 none] = some (.v (.int .i64 len), h) := rfl
  simp (disch := first | (simp only [DS, reduceCtorEq]; done) | omega) only [WS, St.guard, St.put, evalO, reduceCtorEq, reduceIte, Nat.reduceAdd, Nat.reduceEqDiff, e1, lenV, lenP, vBin_eql, h1, h2, ap, fin_tmp, leave_o]
  exact ⟨by simp, trivial⟩
theorem ins_new (hf : prog insNm = some f_slices_Insert___api_Seen_api_Seen_) {G : List (Option Blk)} {s : AV} {q : Nat} {V : Blk} (hq : G[q]? = some (some V)) (v1 : V.cells.length = 3)
    (e1 : ∀ L, prim ⟨G, L⟩ (.slice 3 true false false) [s, .v (.int .i64 0)] = some (s, ⟨G, L⟩)) (e2 : ∀ L, prim ⟨G, L⟩ .lenSlice [s] = some (.v (.int .i64 0), ⟨G, L⟩)) {d : Bool}
    (e3 : prim ⟨G, [none, none]⟩ (.append 0 true 3 64) [s, .own (.o q) 3 0 1 3 (some 1)] = some (.own (.l 0) 3 0 1 3 none, ⟨G, [some { cells := V.cells, opn := true, wr := true, data := d, virt := false }, none]⟩))
    (hd : ({ cells := V.cells, opn := true, wr := true, data := d, virt := false } : Blk).labs = []) :
    Ev prog (.call insNm [s, .v (.int .i64 0), .own (.o q) 3 0 1 3 (some 1)] G)
      (.ret (.own (.o G.length) 3 0 1 3 none) (G ++ [some { cells := V.cells, opn := true, wr := true, data := d, virt := false }])) := by
  refine call_of_fin hf ?_
  simp only [f_slices_Insert___api_Seen_api_Seen__B, enter, List.length_cons, List.length_nil, List.replicate, Nat.reduceAdd, Nat.reduceSub, List.cons_append, List.nil_append]
  have h1 : ((1 : Int) == (0 : Int)) = false := rfl
  have h2 : ((0 : Int) == (0 : Int)) = true := rfl
  have lenV : ∀ {h : Hp}, prim h .lenSlice [.own (.o q) 3 0 1 3 (some 1)] = some (.v (.int .i64 1), h) := rfl
  simp (disch := first | (simp only [DS, reduceCtorEq]; done) | omega) only [WS, St.guard, St.put, evalO, reduceCtorEq, reduceIte, Nat.reduceAdd, Nat.reduceEqDiff, e1, e2, lenV, vBin_eql, h1, h2, e3, fin_tmp]
  exact ⟨by simp, leave_own1 (j := 0) rfl hd⟩
theorem ins_nil (hf : prog insNm = some f_slices_Insert___api_Seen_api_Seen_) {G : List (Option Blk)} {q : Nat} {V : Blk} (hq : G[q]? = some (some V)) (v1 : V.cells.length = 3) (b3 : AV.lf.lfs V.cells = true) :
    Ev prog (.call insNm [.v (.slice none 0 0), .v (.int .i64 0), .own (.o q) 3 0 1 3 (some 1)] G)
      (.ret (.own (.o G.length) 3 0 1 3 none) (G ++ [some { cells := V.cells, opn := true, wr := true, data := true, virt := false }])) := by
  have gq : ∀ L, (⟨G, L⟩ : Hp).get (.o q) = some V := fun L => by simp only [Hp.get, hq]; rfl
  have hs : ∀ L, (⟨G, L⟩ : Hp).source (.own (.o q) 3 0 1 3 (some 1)) = some (1, V.cells) := fun L => by
    simp only [Hp.source, lenOf, Hp.sees, gq, if_pos v1, List.drop_zero]
    rw [List.take_of_length_le (by omega)]
  refine ins_new hf hq v1 (fun L => rfl) (fun L => rfl) ?_ rfl
  simp only [prim, hs, Option.bind_some, Hp.mayFreeze, if_true, freezes_lf b3, Hp.append, v1, Nat.one_mul]
  rw [if_neg (by omega), if_pos (by decide), new_s rfl]
  simp only [Option.map_some, b3]; rfl
theorem ins_zero (hf : prog insNm = some f_slices_Insert___api_Seen_api_Seen_) {G : List (Option Blk)} {p q : Nat} {B V : Blk} (hp : G[p]? = some (some B)) (hq : G[q]? = some (some V)) (b1 : B.cells = []) (b2 : B.data = true) (v1 : V.cells.length = 3)
    (b3 : AV.lf.lfs V.cells = true) :
    Ev prog (.call insNm [.own (.o p) 0 0 0 3 (some 0), .v (.int .i64 0), .own (.o q) 3 0 1 3 (some 1)] G)
      (.ret (.own (.o G.length) 3 0 1 3 none) (G ++ [some { cells := V.cells, opn := true, wr := true, data := true, virt := false }])) := by
  have gp : ∀ L, (⟨G, L⟩ : Hp).get (.o p) = some B := fun L => by simp only [Hp.get, hp]; rfl
  have gq : ∀ L, (⟨G, L⟩ : Hp).get (.o q) = some V := fun L => by simp only [Hp.get, hq]; rfl
  have hs : ∀ L, (⟨G, L⟩ : Hp).source (.own (.o q) 3 0 1 3 (some 1)) = some (1, V.cells) := fun L => by
    simp only [Hp.source, lenOf, Hp.sees, gq, if_pos v1, List.drop_zero]
    rw [List.take_of_length_le (by omega)]
  refine ins_new hf hq v1 (fun L => rfl) (fun L => rfl) ?_ rfl
  simp only [prim, hs, Option.bind_some, Hp.mayFreeze, if_true, freezes_lf b3, Hp.append, v1, Nat.one_mul, gp]
  rw [if_pos ⟨by rw [b1]; rfl, trivial, by decide, by simp only [okPut, b3, Bool.true_or]⟩, if_neg (by omega), if_neg (by omega), new_s rfl, b1, b2, b3]
  rfl
theorem ins_cells_in {B V D : List AV} {len j : Nat} (hB : B.length = len * 3) (hV : V.length = 3) (hj : j < len) :
    ∃ rest, lay (lay (B ++ D) ((j + 1) * 3) (((B ++ D).drop (j * 3)).take ((len - j) * 3))) (j * 3) V = (B.take (j * 3) ++ V ++ B.drop (j * 3)) ++ rest := by
  have hX : ((B ++ D).drop (j * 3)).take ((len - j) * 3) = B.drop (j * 3) := by
    rw [List.drop_append_of_le_length (by omega), List.take_append_of_le_length (by simp; omega), List.take_of_length_le (by simp; omega)]
  rw [hX]
  refine ⟨(B ++ D).drop ((j + 1) * 3 + (B.drop (j * 3)).length), ?_⟩
  simp only [lay]
  have h1 : ((B ++ D).take ((j + 1) * 3)).length = (j + 1) * 3 := by simp; omega
  rw [List.append_assoc ((B ++ D).take ((j + 1) * 3)), List.take_append_of_le_length (by omega), List.take_take, Nat.min_eq_left (by omega), List.take_append_of_le_length (by omega),
    List.drop_append, h1, List.drop_eq_nil_of_le (by omega), hV, show j * 3 + 3 - (j + 1) * 3 = 0 by omega, List.drop_zero, List.nil_append]
  simp only [List.append_assoc]
theorem ins_cells_out {B V D : List AV} {len j : Nat} (hB : B.length = len * 3) (hV : V.length = 3) (hj : j < len) :
    lay (lay ((B ++ D).take (j * 3) ++ insZ (len + 1 - j)) (j * 3) V) ((j + 1) * 3) (((B ++ D).drop (j * 3)).take ((len - j) * 3)) = B.take (j * 3) ++ V ++ B.drop (j * 3) := by
  have hX : ((B ++ D).drop (j * 3)).take ((len - j) * 3) = B.drop (j * 3) := by
    rw [List.drop_append_of_le_length (by omega), List.take_append_of_le_length (by simp; omega), List.take_of_length_le (by simp; omega)]
  rw [hX]
  have h0 : (B ++ D).take (j * 3) = B.take (j * 3) := List.take_append_of_le_length (by omega)
  have hl : (B.take (j * 3)).length = j * 3 := by simp; omega
  rw [h0]
  simp only [lay]
  have t1 : (B.take (j * 3) ++ insZ (len + 1 - j)).take (j * 3) = B.take (j * 3) := by
    rw [List.take_append_of_le_length (by omega), List.take_of_length_le (by omega)]
  rw [t1]
  have h2 : (B.take (j * 3) ++ V).length = (j + 1) * 3 := by simp [hV]; omega
  rw [List.take_append_of_le_length (by omega), List.take_of_length_le (by omega)]
  have h3 : (B.take (j * 3) ++ V ++ (B.take (j * 3) ++ insZ (len + 1 - j)).drop (j * 3 + V.length)).length = (len + 1) * 3 := by
    simp [insZ_len, hV]; omega
  have t2 : (B.take (j * 3) ++ V ++ (B.take (j * 3) ++ insZ (len + 1 - j)).drop (j * 3 + V.length)).drop ((j + 1) * 3 + (B.drop (j * 3)).length) = [] := List.drop_eq_nil_of_le (by rw [h3]; simp; omega)
  rw [t2, List.append_nil]
end Go.AM
