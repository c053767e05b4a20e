import Derived.Test.YtikbagggffehkaaLawKeysC
set_option linter.unusedVariables false
set_option linter.unusedSimpArgs false
namespace Go.AM
variable {prog : String → Option IFn}
structure Law26B (prog : String → Option IFn) : Prop extends Law26C prog where
  same : prog "haberdash/haberdashhelp.Same[haberdash/api.Seen]" = some f_help_Same_api_Seen_
  seen : prog "haberdash/haberdashhelp.Seen" = some f_help_Seen
def bytE : Enc Byt := ⟨fun x => [x.a], 1, false, fun _ => rfl, by omega, .inr rfl, fun x => by simp [AV.lf.lfs, x.lf], fun _ x => ⟨x.a, rfl, x.cellsOf⟩⟩
theorem is_byts {cs : List AV} (h : (Ty.slice (.slice (.int .u8))).Is cs) : ∃ a, ∃ xs : List Byt, cs = [a] ∧ (∀ h, TView bytE h a xs) ∧ xs.length ≤ maxLen ∧ ∀ x ∈ xs, x.b.length ≤ maxLen := by
  rcases h with rfl | ⟨es, rfl, h, hl⟩
  · exact ⟨_, [], rfl, fun h => view_nil' (by decide), by simp, by simp⟩
  · obtain ⟨xs, hb, hx⟩ : ∃ xs : List Byt, es = xs.map bytE.E ∧ ∀ x ∈ xs, x.b.length ≤ maxLen := by
      clear hl
      induction es with
      | nil => exact ⟨[], rfl, by simp⟩
      | cons e es ih =>
        obtain ⟨xs, hb, hx⟩ := ih fun x hx => h x (by simp [hx])
        obtain ⟨x, rfl, h1⟩ := is_byt (h e (by simp))
        refine ⟨x :: xs, by rw [hb]; rfl, fun y hy => ?_⟩
        rcases List.mem_cons.1 hy with rfl | hy
        · exact h1
        · exact hx y hy
    subst hb
    have e : (xs.map bytE.E).flatten = bytE.row xs := by rw [Enc.row, List.flatMap_def]
    refine ⟨_, xs, rfl, fun h => ?_, by simpa using hl, hx⟩
    rw [e, List.length_map]
    exact view_ro (by decide) (bytE.row_len xs)
theorem cut_ex (x : Byt) (n : Nat) (hn : n ≤ x.b.length) : ∃ y : Byt, y.b = x.b.take n ∧ ∀ h, prim h (.slice 1 false true false) [x.a, .v (.int .i64 (n : Int))] = some (y.a, h) := by
  rcases x.ok with ⟨e, e2⟩ | ⟨nl, e, e2⟩
  · have : n = 0 := by rw [e2] at hn; simpa using hn
    subst this
    refine ⟨noB, rfl, fun h => ?_⟩
    rw [e]; rfl
  · refine ⟨⟨x.b.take n, .ro nl 1 n ((x.b.take n).map byteAV), .inr ⟨nl, by rw [List.length_take, Nat.min_eq_left hn], fun h => by rw [e2 h]; simp⟩⟩, rfl, fun h => ?_⟩
    rw [e, px_slice_ro, if_pos rfl]
    simp only [bounds, natOf_nat, Option.bind_some, AM.leCap, decide_eq_true hn, if_true, Nat.zero_le, and_self, Nat.sub_zero, Nat.zero_mul, List.drop_zero, Nat.mul_one, List.map_take]
def key3 (x : SeenD) : Txt × Txt × Txt := (x.k, x.q.b, x.t.b)
def Rel (l m : List SeenD) : Prop := l.map key3 = m.map key3
theorem Rel.ks {l m} (h : Rel l m) : ksOf l = ksOf m := by
  have : (l.map key3).map (·.1) = (m.map key3).map (·.1) := congrArg _ h
  rw [List.map_map, List.map_map] at this; exact this
theorem Rel.len {l m} (h : Rel l m) : l.length = m.length := by
  have := congrArg List.length h
  rwa [List.length_map, List.length_map] at this
theorem Rel.right {l m} (h : Rel l m) : rightK l = rightK m := by
  have e : ∀ xs : List SeenD, xs.all (fun x => nameOK x.k) = (ksOf xs).all nameOK := fun xs => by unfold ksOf; rw [List.all_map]; rfl
  unfold rightK
  rw [h.len, e, e, h.ks]
theorem Rel.ask {l m} (h : Rel l m) (s bq : Txt) : askK l s bq = askK m s bq := by
  unfold askK
  rw [h.ks]
  have : ∀ i : Nat, (l[i]?).map key3 = (m[i]?).map key3 := fun i => by rw [← List.getElem?_map, ← List.getElem?_map, h]
  have := this (fstB (ksOf m) s)
  cases h1 : l[fstB (ksOf m) s]? with
  | none =>
    cases h2 : m[fstB (ksOf m) s]? with
    | none => rfl
    | some y => rw [h1, h2] at this; cases this
  | some x =>
    cases h2 : m[fstB (ksOf m) s]? with
    | none => rw [h1, h2] at this; cases this
    | some y =>
      rw [h1, h2] at this
      simp only [Option.map_some, Option.some.injEq, key3, Prod.mk.injEq] at this
      obtain ⟨_, e1, e2⟩ := this
      simp only [e1, e2]
theorem Rel.putE {l m} (h : Rel l m) (x : SeenD) : kputE l x = kputE m x := by
  unfold kputE; rw [h.right, h.ks, h.len]
theorem Rel.ins {l m} (h : Rel l m) (x : SeenD) : Rel ((insK l x).map cloneS) (insK m x) := by
  unfold Rel
  have hc : ∀ xs : List SeenD, (xs.map cloneS).map key3 = xs.map key3 := fun xs => by
    rw [List.map_map]
    refine List.map_congr_left fun y _ => ?_
    simp [key3, cloneS, cloneY_b]
  rw [hc]
  unfold insK insAt
  rw [h.ks]
  simp only [List.map_append, List.map_cons, List.map_take, List.map_drop]
  rw [show l.map key3 = m.map key3 from h]
theorem Rel.same {l m} (h : Rel l m) : same2 seenEq l m = true := by
  induction l generalizing m with
  | nil => cases m with
    | nil => rfl
    | cons y m => simp [Rel] at h
  | cons x l ih => cases m with
    | nil => simp [Rel] at h
    | cons y m =>
      simp only [Rel, List.map_cons, List.cons.injEq] at h
      obtain ⟨h1, h2⟩ := h
      simp only [key3, Prod.mk.injEq] at h1
      rw [same2, ih h2, Bool.and_true]
      simp [seenEq, h1.1, h1.2.1, h1.2.2]
def plStep (x : SeenD) (s : List SeenD × List SeenD) : List SeenD × List SeenD := if kputE s.1 x = 0 then ((insK s.1 x).map cloneS, insK s.2 x) else s
theorem pl_step {n : Nat} {s : List SeenD × List SeenD} {x : SeenD} (h1 : KInv n s.1) (h2 : KInv n s.2) (hr : Rel s.1 s.2) (hn : n < 4000) (hx : nameOK x.k = true) (hs : x.k.length ≤ 300 ∧ x.q.b.length ≤ 300 ∧ x.t.b.length ≤ 300) :
    KInv (n + 1) (plStep x s).1 ∧ KInv (n + 1) (plStep x s).2 ∧ Rel (plStep x s).1 (plStep x s).2 := by
  unfold plStep
  rcases h1.put hn hx with ⟨he, hf⟩ | ⟨he, hf⟩
  · rw [he, if_neg (by decide)]
    exact ⟨h1.up (by omega), h2.up (by omega), hr⟩
  · rw [he, if_pos rfl]
    exact ⟨(h1.ins hn hx hs hf).clone, h2.ins hn hx hs (by rw [← hr.ks]; exact hf), hr.ins x⟩
abbrev plMV : List (Nat × Nat) := [(6, 0), (7, 1)]
theorem data_ren {C : Option Blk} {ρ} (h : ∀ c, C = some c → c.labs = []) : C.map (Blk.ren ρ) = C := by
  cases C with
  | none => rfl
  | some c => rw [Option.map_some, blk_ren_id fun ℓ hℓ => by rw [h c rfl] at hℓ; cases hℓ]
set_option maxRecDepth 10000 in
theorem plMove {env A B C2 C3} {b : Txt} {c5 c6 c7 : List AV} : mvSt plMV ⟨env, ⟨[], [A, B, C2, C3, fzB b, some (dBlk c5 false false), some (dBlk c6 true false), some (dBlk c7 true false)]⟩⟩ =
    some ⟨env.map (AV.ren (mvLab plMV)), ⟨[], [some (dBlk c6 true false), some (dBlk c7 true false), C2.map (Blk.ren (mvLab plMV)), C3.map (Blk.ren (mvLab plMV)), fzB b, some (dBlk c5 false false), none, none]⟩⟩ := by
  unfold mvSt
  refine (if_pos (by rfl)).trans ?_
  rfl
set_option maxRecDepth 100000 in
set_option maxHeartbeats 4000000 in
theorem KeysPlays_law (H : Law26B prog) (hp : prog "haberdash/haberdashlaw26.KeysPlays" = some f_law26_KeysPlays) {as} (h : IsAll [.slice (.int .i64), .slice (.slice (.int .u8))] as) :
    ∃ G2, Ev prog (.call "haberdash/haberdashlaw26.KeysPlays" as []) (.ret (.v (.bool true)) G2) := by
  rcases as with _ | ⟨a0, _ | ⟨a1, _ | _⟩⟩ <;> try (simp [IsAll] at h; done)
  obtain ⟨⟨c0, h0, rfl⟩, ⟨c1, h1, rfl⟩, _⟩ := h
  obtain ⟨a, ks, rfl, va, hkm, hki⟩ := is_ints h0
  obtain ⟨a', ys, rfl, vb, hym, hyl⟩ := is_byts h1
  have hroom : room = 140737488355328 := rfl
  have hmx : maxLen = 9223372036854775807 := rfl
  have HK := H.toKeysLib2
  refine ⟨[], call_of_fin hp ?_⟩
  have aw : ∀ G, G.length = 8 → Ev prog (.call "haberdash/haberdashlaw26.awake" [] G) (.ret (.v (.bool true)) G) := fun G h => awake26 H.toLaw26 (.inr (.inr (.inl h)))
  have lenA : ∀ {h : Hp}, prim h .lenSlice [a] = some (.v (.int .i64 (ks.length : Nat)), h) := fun {h} => (va h).lenSlice
  have lenB : ∀ {h : Hp}, prim h .lenSlice [a'] = some (.v (.int .i64 (ys.length : Nat)), h) := fun {h} => (vb h).lenSlice
  have ra : ∀ ρ, a.ren ρ = a := view_ren (va ⟨[], []⟩)
  have rb : ∀ ρ, a'.ren ρ = a' := view_ren (vb ⟨[], []⟩)
  have na : ∀ ks', noRef ks' a = true := fun ks' => noRef_out (View.out (va ⟨[], []⟩))
  have nb : ∀ ks', noRef ks' a' = true := fun ks' => noRef_out (View.out (vb ⟨[], []⟩))
  have dn : ∀ c, (none : Option Blk) = some c → c.labs = [] := fun c h => by cases h
  have gL : ∀ A B C D E F I J : Option Blk, (∀ c, A = some c → c.labs = []) → (∀ c, B = some c → c.labs = []) → (∀ c, C = some c → c.labs = []) → (∀ c, D = some c → c.labs = []) → (∀ c, E = some c → c.labs = []) → (∀ c, F = some c → c.labs = []) → (∀ c, I = some c → c.labs = []) → (∀ c, J = some c → c.labs = []) →
      Good ⟨[], [A, B, C, D, E, F, I, J]⟩ := fun A B C D E F I J hA hB hC hD hE hF hI hJ => goodD hA (goodD hB (goodD hC (goodD hD (goodD hE (goodD hF (goodD hI (goodD hJ trivial)))))))
  simp only [f_law26_KeysPlays_B, enter, List.length_cons, List.length_nil, List.replicate, Nat.reduceAdd, Nat.reduceSub, List.cons_append, List.nil_append, Ty.arg, intAV]
  simp (disch := first | (simp only [DS, reduceCtorEq]; done) | omega) only [WS, St.guard, St.put, evalO, reduceCtorEq, reduceIte, Nat.reduceAdd, Nat.reduceEqDiff, lenA]
  by_cases h60 : (ks.length : Int) > 60
  · simp (disch := first | (simp only [DS, reduceCtorEq]; done) | omega) only [WS, St.guard, St.put, evalO, reduceCtorEq, reduceIte, Nat.reduceAdd, Nat.reduceEqDiff, h60, decide_true]
    refine (WP_p (x := .bool true) (by exact aw _ rfl) (by exact trivial)).2 ?_
    simp (disch := first | (simp only [DS, reduceCtorEq]; done) | omega) only [WS, St.guard, St.put, evalO, reduceCtorEq, reduceIte, Nat.reduceAdd, Nat.reduceEqDiff, fin_tmp, leave_v]
    simp
  simp (disch := first | (simp only [DS, reduceCtorEq]; done) | omega) only [WS, St.guard, St.put, evalO, reduceCtorEq, reduceIte, Nat.reduceAdd, Nat.reduceEqDiff, h60, decide_false, lenB]
  by_cases h61 : (ys.length : Int) > 60
  · simp (disch := first | (simp only [DS, reduceCtorEq]; done) | omega) only [WS, St.guard, St.put, evalO, reduceCtorEq, reduceIte, Nat.reduceAdd, Nat.reduceEqDiff, h61, decide_true]
    refine (WP_p (x := .bool true) (by exact aw _ rfl) (by exact trivial)).2 ?_
    simp (disch := first | (simp only [DS, reduceCtorEq]; done) | omega) only [WS, St.guard, St.put, evalO, reduceCtorEq, reduceIte, Nat.reduceAdd, Nat.reduceEqDiff, fin_tmp, leave_v]
    simp
  simp (disch := first | (simp only [DS, reduceCtorEq]; done) | omega) only [WS, St.guard, St.put, evalO, reduceCtorEq, reduceIte, Nat.reduceAdd, Nat.reduceEqDiff, h61, decide_false]
  have hcut : ∀ y : Byt, ∃ z : Byt, z.b = y.b.take (min y.b.length 100) ∧ ∀ h, prim h (.slice 1 false true false) [y.a, .v (.int .i64 ((min y.b.length 100 : Nat) : Int))] = some (z.a, h) := fun y => cut_ex y _ (by omega)
  obtain ⟨cut, hcut1, hcut2⟩ : ∃ cut : Byt → Byt, (∀ y, (cut y).b = y.b.take (min y.b.length 100)) ∧ ∀ y h, prim h (.slice 1 false true false) [y.a, .v (.int .i64 ((min y.b.length 100 : Nat) : Int))] = some ((cut y).a, h) :=
    ⟨fun y => (hcut y).choose, fun y => (hcut y).choose_spec.1, fun y => (hcut y).choose_spec.2⟩
  obtain ⟨X, hX⟩ : ∃ X : Nat → SeenD, ∀ i k y, ks[i]? = some k → ys[i]? = some y → X i = ⟨keyT k, cut y, roB [UInt8.ofNat i]⟩ :=
    ⟨fun i => match ks[i]?, ys[i]? with | some k, some y => ⟨keyT k, cut y, roB [UInt8.ofNat i]⟩ | _, _ => ⟨[97], noB, noB⟩, fun i k y h1 h2 => by simp only [h1, h2]⟩
  obtain ⟨S, hS0, hS1⟩ : ∃ S : Nat → List SeenD × List SeenD, S 0 = ([], []) ∧ ∀ i, S (i + 1) = plStep (X i) (S i) := ⟨fun i => Nat.rec ([], []) (fun i s => plStep (X i) s) i, rfl, fun i => rfl⟩
  have hXi : ∀ i, i < ks.length → i < ys.length → nameOK (X i).k = true ∧ ((X i).k.length ≤ 300 ∧ (X i).q.b.length ≤ 300 ∧ (X i).t.b.length ≤ 300) := fun i h1 h2 => by
    rw [hX i _ _ (List.getElem?_eq_getElem h1) (List.getElem?_eq_getElem h2)]
    refine ⟨keyT_name _, by show (keyT _).length ≤ 300; rw [keyT_len]; omega, ?_, by show 1 ≤ 300; omega⟩
    rw [hcut1, List.length_take]; omega
  have hInv : ∀ i, i ≤ ks.length → i ≤ ys.length → KInv i (S i).1 ∧ KInv i (S i).2 ∧ Rel (S i).1 (S i).2 := by
    intro i
    induction i with
    | zero => intro _ _; rw [hS0]; exact ⟨KInv.nil, KInv.nil, rfl⟩
    | succ i ih =>
      intro h1 h2
      obtain ⟨i1, i2, i3⟩ := ih (by omega) (by omega)
      obtain ⟨x1, x2⟩ := hXi i (by omega) (by omega)
      rw [hS1]
      exact pl_step i1 i2 i3 (by omega) x1 x2
  refine WC_countP (fun i => True) (fun i => ⟨f_law26_KeysPlays_H0 a a' (kU 0 (S i).1) (kU 1 (S i).2) (.v (.int .i64 (i : Nat))), ⟨[], [kK (S i).1, kK (S i).2, none, none, none, none, none, none]⟩⟩) (min ks.length ys.length) ?_ trivial (fun i hi _ => ?_) (fun _ => ?_)
  · rw [hS0]
    exact clear_fre (by simp only [clear_nil, List.foldl_cons, List.foldl_nil, Option.some.injEq, LS, reduceCtorEq, reduceIte, Nat.reduceAdd] <;> rfl) (by rfl) (by simp only [f_law26_KeysPlays_H0, List.all_cons, List.all_nil, noRef_v, noRef_dead, noRef_own, noRef_ptr, noRef_nil, Bool.and_true, Bool.true_and, Bool.and_self, List.contains_cons, List.contains_nil, Bool.or_false, Nat.reduceBEq, Bool.not_false, na, nb]; rfl) (by rfl)
  · have hik : i < ks.length := by omega
    have hiy : i < ys.length := by omega
    have hlt' : (i : Int) < (ks.length : Int) := by omega
    have hlt2 : (i : Int) < (ys.length : Int) := by omega
    have hk : ks[i]? = some ks[i] := List.getElem?_eq_getElem hik
    have hy : ys[i]? = some ys[i] := List.getElem?_eq_getElem hiy
    have hkb := hki ks[i] (List.getElem_mem hik)
    have vl := fun h : Hp => (va h).load1 (i := i) (x := intAV ks[i]) (by rw [List.getElem?_map, hk]; rfl)
    have vi := fun h : Hp => (va h).index (k := .i64) hik
    have wl := fun h : Hp => (vb h).load hy
    have wi := fun h : Hp => (vb h).index (k := .i64) hiy
    obtain ⟨i1, i2, i3⟩ := hInv i (by omega) (by omega)
    obtain ⟨x1, x2⟩ := hXi i hik hiy
    have hXe := hX i _ _ hk hy
    have hSn := hS1 i
    generalize ks[i] = k at *
    generalize ys[i] = y at *
    generalize hx : X i = x at *
    obtain ⟨l, hl⟩ : ∃ l, l = (S i).1 := ⟨_, rfl⟩
    obtain ⟨m, hm⟩ : ∃ m, m = (S i).2 := ⟨_, rfl⟩
    rw [← hl, ← hm] at i3 ⊢
    rw [← hl] at i1
    rw [← hm] at i2
    have hll := i1.len
    have hml := i2.len
    have hxk : x.k = keyT k := by rw [hXe]
    have hxq : x.q = cut y := by rw [hXe]
    have lenY : ∀ {h : Hp}, prim h .lenSlice [y.a] = some (.v (.int .i64 (y.b.length : Nat)), h) := fun {h} => (y.view h).lenSlice
    have hmin : mins .i64 (y.b.length : Int) [.v (.int .i64 100)] = some ((min y.b.length 100 : Nat) : Int) := by
      simp only [mins]
      split <;> congr 1 <;> omega
    have ci : ∀ {h : Hp}, prim h (.convInt .u8) [.v (.int .i64 (i : Int))] = some (.v (u8 (UInt8.ofNat i)), h) := fun {h} => cvU8
    have wl' : ∀ h, prim h (.load 1 false) [elemPtr a' 1 i] = some (y.a, h) := wl
    have wi' : ∀ h, prim h (.indexAddr 1) [a', .v (.int .i64 (i : Int))] = some (elemPtr a' 1 i, h) := wi
    simp (disch := first | (simp only [DS, reduceCtorEq]; done) | omega) only [f_law26_KeysPlays_L0, f_law26_KeysPlays_H0, WS, St.guard, St.put, evalO, reduceCtorEq, reduceIte, Nat.reduceAdd, Nat.reduceEqDiff, lenA, lenB, hlt', hlt2, decide_true, wi', wl', lenY, hmin, hcut2, vi, vl, intAV]
    have hkey : ∀ G, Ev prog (.call "haberdash/haberdashlaw26.key" [.v (.int .i64 k)] G) (.ret (.v (str (keyT k))) G) := fun G => key_spec H.key H.sku H.mod hkb
    have L0 : ∀ A B C D E F, Good ⟨[], [kK l, kK m, A, B, C, D, E, F]⟩ ↔ Good ⟨[], [kK l, kK m, A, B, C, D, E, F]⟩ := fun _ _ _ _ _ _ => Iff.rfl
    refine (WP_p (x := str (keyT k)) (by exact hkey _) (by exact gL _ _ _ _ _ _ _ _ kK_lab kK_lab dn dn dn dn dn dn)).2 ?_
    simp (disch := first | (simp only [DS, reduceCtorEq]; done) | omega) only [WS, St.guard, St.put, evalO, reduceCtorEq, reduceIte, Nat.reduceAdd, Nat.reduceEqDiff]
    obtain ⟨w, hw⟩ : ∃ w, w = askK l (keyT k) (cut y).b := ⟨_, rfl⟩
    have hw' : w = askK m (keyT k) (cut y).b := by rw [hw]; exact i3.ask _ _
    obtain ⟨b2, B2, hat2, ev2⟩ := op_ask (prog := prog) (f := "haberdash/keys.Ask") (args := [kU 0 l, .v (str (keyT k)), (cut y).a]) (site := 2) (G := []) (L := [kK l, kK m, none, none, none, none, none, none]) (w := w) (by
      rw [List.map_cons, List.map_cons, List.map_cons, List.map_nil, (cut y).ren, str_ren, hw]
      exact keysAsk_spec HK.toKeysLib ((kSite 0 l).into rfl).1 (fun L => (cut y).view _) (by omega) i1.kt) rfl (gL _ _ _ _ _ _ _ _ kK_lab kK_lab dn dn dn dn dn dn)
    refine WP_of (by exact ev2) ?_
    simp (disch := first | (simp only [DS, reduceCtorEq]; done) | omega) only [WS, St.guard, St.put, evalO, reduceCtorEq, reduceIte, Nat.reduceAdd, Nat.reduceEqDiff, wi', wl', vi, vl, intAV]
    refine (WP_p (x := str (keyT k)) (by exact hkey _) (by exact gL _ _ _ _ _ _ _ _ kK_lab kK_lab hat2.data dn dn dn dn dn)).2 ?_
    simp (disch := first | (simp only [DS, reduceCtorEq]; done) | omega) only [WS, St.guard, St.put, evalO, reduceCtorEq, reduceIte, Nat.reduceAdd, Nat.reduceEqDiff]
    obtain ⟨b3, B3, hat3, ev3⟩ := op_ask (prog := prog) (f := "haberdash/haberdashref25.Ask") (args := [kU 1 m, .v (str (keyT k)), (cut y).a]) (site := 3) (G := []) (L := [kK l, kK m, B2, none, none, none, none, none]) (w := w) (by
      rw [List.map_cons, List.map_cons, List.map_cons, List.map_nil, (cut y).ren, str_ren, hw']
      exact refAsk_spec HK.toKeysLib ((kSite 1 m).into rfl).1 (fun L => (cut y).view _) (by omega) i2.kt) rfl (gL _ _ _ _ _ _ _ _ kK_lab kK_lab hat2.data dn dn dn dn dn)
    refine WP_of (by exact ev3) ?_
    simp (disch := first | (simp only [DS, reduceCtorEq]; done) | omega) only [WS, St.guard, St.put, evalO, reduceCtorEq, reduceIte, Nat.reduceAdd, Nat.reduceEqDiff]
    refine (WP_p (x := .bool true) (by
      have : decide (w.1 = w.1) = true := decide_eq_true rfl
      rw [← this]
      exact Bytes_spec H.bytes ((hat2.view (G := []) (L := [kK l, kK m, B2, B3, none, none, none, none]) rfl).into bytes_lfs) ((hat3.view (G := []) (L := [kK l, kK m, B2, B3, none, none, none, none]) rfl).into bytes_lfs)) (by exact gL _ _ _ _ _ _ _ _ kK_lab kK_lab hat2.data hat3.data dn dn dn dn)).2 ?_
    have hwn : (w.2 != w.2) = false := by simp
    simp (disch := first | (simp only [DS, reduceCtorEq]; done) | omega) only [WS, St.guard, St.put, evalO, reduceCtorEq, reduceIte, Nat.reduceAdd, Nat.reduceEqDiff, vBin_neq, hwn, wi', wl', vi, vl, intAV]
    refine (WP_p (x := str (keyT k)) (by exact hkey _) (by exact gL _ _ _ _ _ _ _ _ kK_lab kK_lab hat2.data hat3.data dn dn dn dn)).2 ?_
    have b4 : prim ⟨[], [kK l, kK m, B2, B3, none, none, none, none]⟩ (.buildSlice 4 false 1 1 [.int .u8 0] [(0, 1)]) [.v (u8 (UInt8.ofNat i))] = some (.own (.l 4) 1 0 1 1 (some 1), ⟨[], [kK l, kK m, B2, B3, some (dBlk [byteAV (UInt8.ofNat i)] false false), none, none, none]⟩) := rfl
    have f4 : (⟨[], [kK l, kK m, B2, B3, some (dBlk [byteAV (UInt8.ofNat i)] false false), none, none, none]⟩ : Hp).freeze (.own (.l 4) 1 0 1 1 (some 1)) = some ((roB [UInt8.ofNat i]).a, ⟨[], [kK l, kK m, B2, B3, fzB [UInt8.ofNat i], none, none, none]⟩) := rfl
    have b5 : prim ⟨[], [kK l, kK m, B2, B3, some (dBlk [byteAV (UInt8.ofNat i)] false false), none, none, none]⟩ (.buildF [.string ⟨#[]⟩, .slice none 0 0, .slice none 0 0] [(0, 1), (1, 1), (2, 1)]) [.v (str (keyT k)), (cut y).a, .own (.l 4) 1 0 1 1 (some 1)] =
        some (.agg x.cells, ⟨[], [kK l, kK m, B2, B3, fzB [UInt8.ofNat i], none, none, none]⟩) := by
      rw [buildF3 ((cut y).freeze _) f4 (cut y).cellsOf (roB [UInt8.ofNat i]).cellsOf, hXe]; rfl
    have al : ∀ A B C D E, prim ⟨[], [A, B, C, D, E, none, none, none]⟩ (.alloc 5 [.string ⟨#[]⟩, .slice none 0 0, .slice none 0 0] []) [] = some (.ptr (.l 5) 3 0, ⟨[], [A, B, C, D, E, some (dBlk [.v (.string ⟨#[]⟩), .v (.slice none 0 0), .v (.slice none 0 0)] false false), none, none]⟩) := fun A B C D E => rfl
    have st : ∀ A B C D E, prim ⟨[], [A, B, C, D, E, some (dBlk [.v (.string ⟨#[]⟩), .v (.slice none 0 0), .v (.slice none 0 0)] false false), none, none]⟩ (.store 3 false) [.ptr (.l 5) 3 0, .agg x.cells] = some (.v undef, ⟨[], [A, B, C, D, E, some (dBlk x.cells false false), none, none]⟩) := fun A B C D E => by
      rw [storeX]
      simp only [List.getElem?_cons_succ, List.getElem?_cons_zero, Option.join_some, cells_agg, storeB, dBlk]
      rw [if_pos ⟨rfl, trivial, rfl, by decide⟩, x.lf]; rfl
    have ld : ∀ A B C D E F I, prim ⟨[], [A, B, C, D, E, some (dBlk x.cells false false), F, I]⟩ (.load 3 true) [.ptr (.l 5) 3 0] = some (.agg x.cells, ⟨[], [A, B, C, D, E, some (dBlk x.cells false false), F, I]⟩) := fun A B C D E F I => rfl
    simp (disch := first | (simp only [DS, reduceCtorEq]; done) | omega) only [WS, St.guard, St.put, evalO, reduceCtorEq, reduceIte, Nat.reduceAdd, Nat.reduceEqDiff, ci, b4, b5, al, st, ld]
    have g5 : ∀ F I, (∀ c, F = some c → c.labs = []) → (∀ c, I = some c → c.labs = []) → Good ⟨[], [kK l, kK m, B2, B3, fzB [UInt8.ofNat i], some (dBlk x.cells false false), F, I]⟩ := fun F I h1 h2 => gL _ _ _ _ _ _ _ _ kK_lab kK_lab hat2.data hat3.data fzB_lab dBlk_l h1 h2
    have kx : ∀ {P : SeenD → Prop} {ls : List SeenD}, P x → (∀ y ∈ ls, P y) → ∀ y ∈ x :: ls, P y := fun h1 h2 y hy => by
      rcases List.mem_cons.1 hy with rfl | hy
      · exact h1
      · exact h2 y hy
    have xq := x2.2.1
    have xt := x2.2.2
    have xk := x2.1
    obtain ⟨nb6, sn1, sn2⟩ := ((kSite 0 l).into (G := []) (L := [kK l, kK m, B2, B3, fzB [UInt8.ofNat i], some (dBlk x.cells false false), none, none]) rfl).2
    obtain ⟨u6, B6, ev6, K6⟩ := op_put (prog := prog) (f := "haberdash/keys.Put") (args := [kU 0 l, .agg x.cells]) (site := 6) (G := []) (L := [kK l, kK m, B2, B3, fzB [UInt8.ofNat i], some (dBlk x.cells false false), none, none]) (us := kputP l x) (e := kputE l x)
      (by rw [List.map_cons, List.map_cons, List.map_nil, agg_ren]; exact keysPut_spec HK ((kSite 0 l).into rfl).1 sn1 sn2 (by omega) (kx (by omega) i1.kq) (kx (by omega) i1.kt)) rfl (g5 _ _ dn dn)
    refine WP_of (by exact ev6) ?_
    simp (disch := first | (simp only [DS, reduceCtorEq]; done) | omega) only [WS, St.guard, St.put, evalO, reduceCtorEq, reduceIte, Nat.reduceAdd, Nat.reduceEqDiff, ld]
    obtain ⟨u7, B7, ev7, K7⟩ := op_put (prog := prog) (f := "haberdash/haberdashref25.Put") (args := [kU 1 m, .agg x.cells]) (site := 7) (G := []) (L := [kK l, kK m, B2, B3, fzB [UInt8.ofNat i], some (dBlk x.cells false false), B6, none]) (us := kputR m x) (e := kputE l x)
      (by rw [List.map_cons, List.map_cons, List.map_nil, agg_ren, i3.putE]; exact refPut_spec HK ((kSite 1 m).into rfl).1 (by omega) (kx (by omega) i2.kk)) rfl (g5 _ _ K6.lab dn)
    refine WP_of (by exact ev7) ?_
    have hee : (kputE l x != kputE l x) = false := by simp
    simp (disch := first | (simp only [DS, reduceCtorEq]; done) | omega) only [WS, St.guard, St.put, evalO, reduceCtorEq, reduceIte, Nat.reduceAdd, Nat.reduceEqDiff, vBin_neq, hee]
    have rel : Rel (kputP l x) (kputR m x) := by
      unfold kputP kputR
      rw [← i3.putE]
      split
      · exact i3.ins x
      · rfl
    have lp := kputP_len (xs := l) (x := x)
    have lr := kputR_len (xs := m) (x := x)
    refine (WP_p (x := .bool true) (by
      rw [← rel.same]
      exact sameSeen_spec H.same H.seen H.bytes ((K6.into rfl).1) ((K7.into rfl).1) (by omega) (by omega)) (by exact g5 _ _ K6.lab K7.lab)).2 ?_
    rw [hSn]
    have hplS : plStep x (S i) = if kputE l x = 0 then ((insK l x).map cloneS, insK m x) else (l, m) := by
      unfold plStep; rw [← hl, ← hm, hl, hm]
    rw [hplS]
    have nu : ∀ ls j ks', ks'.contains j = false → noRef ks' (kU j ls) = true := fun ls j ks' h => (kSite j ls).noRef h
    have rB : ∀ {C : Option Blk}, (∀ c, C = some c → c.labs = []) → ∀ ks', blkNoRef ks' C = true := fun {C} hC ks' => by
      unfold blkNoRef
      cases h : C with
      | none => rfl
      | some D => simp only; rw [hC D h]; rfl
    rcases i1.put (by omega) (x := x) x1 with ⟨he, hf⟩ | ⟨he, hf⟩
    · have hw0 : (w.2 == 0) = false := by
        rw [beq_eq_false_iff_ne, hw, ← hxk, ← hxq]
        exact ask_old hf
      have hP : kputP l x = [] := by unfold kputP; rw [he, if_neg (by decide)]
      have hR : kputR m x = [] := by unfold kputR; rw [← i3.putE, he, if_neg (by decide)]
      rw [hP] at K6
      rw [hR] at K7
      obtain ⟨rfl, rfl⟩ : u6 = .v (.slice none 0 0) ∧ B6 = none := by
        rcases K6 with ⟨_, h1, h2⟩ | ⟨h0, _⟩
        · exact ⟨h1, h2⟩
        · exact absurd rfl h0
      obtain ⟨rfl, rfl⟩ : u7 = .v (.slice none 0 0) ∧ B7 = none := by
        rcases K7 with ⟨_, h1, h2⟩ | ⟨h0, _⟩
        · exact ⟨h1, h2⟩
        · exact absurd rfl h0
      rw [he, if_neg (by decide)]
      simp (disch := first | (simp only [DS, reduceCtorEq]; done) | omega) only [WS, St.guard, St.put, evalO, reduceCtorEq, reduceIte, Nat.reduceAdd, Nat.reduceEqDiff, vBin_eql, show ((8 : Int) == 0) = false from rfl, hw0, show ((false == false) != true) = false from rfl]
      refine (WP_p (x := .bool true) (by
        rw [← i1.right]
        exact keysRight_spec HK.toKeysLib ((kSite 0 l).into rfl).1 (by omega)) (by exact g5 _ _ dn dn)).2 ?_
      simp (disch := first | (simp only [DS, reduceCtorEq]; done) | omega) only [WS, St.guard, St.put, evalO, reduceCtorEq, reduceIte, Nat.reduceAdd, Nat.reduceEqDiff, vBin_add_i64]
      exact ⟨clear_fre (by simp only [clear_nil, List.foldl_cons, List.foldl_nil, Option.some.injEq, LS, reduceCtorEq, reduceIte, Nat.reduceAdd] <;> rfl) (by rfl) (by simp only [List.all_cons, List.all_nil, noRef_v, noRef_dead, noRef_own, noRef_ptr, noRef_nil, Bool.and_true, Bool.true_and, Bool.and_self, List.contains_cons, List.contains_nil, Bool.or_false, Nat.reduceBEq, Bool.not_false, na, nb, nu _ 0 [2, 3, 4, 5, 6, 7] rfl, nu _ 1 [2, 3, 4, 5, 6, 7] rfl]) (by simp only [List.all_cons, List.all_nil, kK_ref, Bool.and_true, Bool.true_and]; rfl), trivial⟩
    · have hw0 : (w.2 == 0) = true := by
        rw [hw, ← hxk, ask_new hf]; rfl
      have hP : kputP l x = (insK l x).map cloneS := by unfold kputP; rw [he, if_pos rfl]
      have hR : kputR m x = insK m x := by unfold kputR; rw [← i3.putE, he, if_pos rfl]
      have h6 : (insK l x).map cloneS ≠ [] := fun h => by have := congrArg List.length h; rw [List.length_map, insK_len] at this; simp at this
      have h7 : insK m x ≠ [] := fun h => by have := congrArg List.length h; rw [insK_len] at this; simp at this
      have iN := (i1.ins (by omega) x1 x2 hf).clone
      rw [hP] at K6
      rw [hR] at K7
      rw [he, if_pos rfl]
      generalize (insK l x).map cloneS = l' at *
      generalize insK m x = m' at *
      obtain ⟨rfl, rfl⟩ : u6 = .own (.l 6) (l'.length * 3) 0 l'.length 3 none ∧ B6 = some (dBlk (seenE.row l') true false) := by
        rcases K6 with ⟨h1, _⟩ | ⟨_, h1, h2⟩
        · exact absurd h1 h6
        · exact ⟨h1, h2⟩
      obtain ⟨rfl, rfl⟩ : u7 = .own (.l 7) (m'.length * 3) 0 m'.length 3 none ∧ B7 = some (dBlk (seenE.row m') true false) := by
        rcases K7 with ⟨h1, _⟩ | ⟨_, h1, h2⟩
        · exact absurd h1 h7
        · exact ⟨h1, h2⟩
      simp (disch := first | (simp only [DS, reduceCtorEq]; done) | omega) only [WS, St.guard, St.put, evalO, reduceCtorEq, reduceIte, Nat.reduceAdd, Nat.reduceEqDiff, vBin_eql, show ((0 : Int) == 0) = true from rfl, hw0, show ((true == true) != true) = false from rfl, WC_post, WK_mv_normal]
      refine ⟨_, plMove, ?_⟩
      simp only [List.map_cons, List.map_nil]
      have r6 : AV.ren (mvLab plMV) (.own (.l 6) (l'.length * 3) 0 l'.length 3 none) = kU 0 l' := by unfold kU; rw [if_neg h6]; rfl
      have r7 : AV.ren (mvLab plMV) (.own (.l 7) (m'.length * 3) 0 m'.length 3 none) = kU 1 m' := by unfold kU; rw [if_neg h7]; rfl
      have e6 : some (dBlk (seenE.row l') true false) = kK l' := by unfold kK; rw [if_neg h6]
      have e7 : some (dBlk (seenE.row m') true false) = kK m' := by unfold kK; rw [if_neg h7]
      rw [data_ren hat2.data, data_ren hat3.data]
      simp (disch := first | (simp only [DS, reduceCtorEq]; done) | omega) only [WS, St.guard, St.put, evalO, reduceCtorEq, reduceIte, Nat.reduceAdd, Nat.reduceEqDiff, r6, r7, ra, rb, ren_val, e6, e7]
      have hl' := iN.len
      refine (WP_p (x := .bool true) (by
        rw [← iN.right]
        exact keysRight_spec HK.toKeysLib ((kSite 0 l').into rfl).1 (by omega)) (by exact gL _ _ _ _ _ _ _ _ kK_lab kK_lab hat2.data hat3.data fzB_lab dBlk_l dn dn)).2 ?_
      simp (disch := first | (simp only [DS, reduceCtorEq]; done) | omega) only [WS, St.guard, St.put, evalO, reduceCtorEq, reduceIte, Nat.reduceAdd, Nat.reduceEqDiff, vBin_add_i64]
      exact ⟨clear_fre (by simp only [clear_nil, List.foldl_cons, List.foldl_nil, Option.some.injEq, LS, reduceCtorEq, reduceIte, Nat.reduceAdd] <;> rfl) (by rfl) (by simp only [List.all_cons, List.all_nil, noRef_v, noRef_dead, noRef_own, noRef_ptr, noRef_nil, Bool.and_true, Bool.true_and, Bool.and_self, List.contains_cons, List.contains_nil, Bool.or_false, Nat.reduceBEq, Bool.not_false, na, nb, nu _ 0 [2, 3, 4, 5, 6, 7] rfl, nu _ 1 [2, 3, 4, 5, 6, 7] rfl]) (by simp only [List.all_cons, List.all_nil, kK_ref, Bool.and_true, Bool.true_and]; rfl), trivial⟩
  · obtain ⟨i1, i2, i3⟩ := hInv (min ks.length ys.length) (by omega) (by omega)
    generalize S (min ks.length ys.length) = s at *
    by_cases hk1 : ((min ks.length ys.length : Nat) : Int) < (ks.length : Int)
    · have hk2 : ¬ ((min ks.length ys.length : Nat) : Int) < (ys.length : Int) := by omega
      simp (disch := first | (simp only [DS, reduceCtorEq]; done) | omega) only [f_law26_KeysPlays_L0, f_law26_KeysPlays_H0, WS, St.guard, St.put, evalO, reduceCtorEq, reduceIte, Nat.reduceAdd, Nat.reduceEqDiff, lenA, lenB, hk1, hk2, decide_true, decide_false]
      refine (WP_p (x := .bool true) (by exact aw _ rfl) (by exact gL _ _ _ _ _ _ _ _ kK_lab kK_lab dn dn dn dn dn dn)).2 ?_
      simp (disch := first | (simp only [DS, reduceCtorEq]; done) | omega) only [WS, St.guard, St.put, evalO, reduceCtorEq, reduceIte, Nat.reduceAdd, Nat.reduceEqDiff, fin_tmp, leave_v]
      simp
    · simp (disch := first | (simp only [DS, reduceCtorEq]; done) | omega) only [f_law26_KeysPlays_L0, f_law26_KeysPlays_H0, WS, St.guard, St.put, evalO, reduceCtorEq, reduceIte, Nat.reduceAdd, Nat.reduceEqDiff, lenA, lenB, hk1, decide_false]
      refine (WP_p (x := .bool true) (by exact aw _ rfl) (by exact gL _ _ _ _ _ _ _ _ kK_lab kK_lab dn dn dn dn dn dn)).2 ?_
      simp (disch := first | (simp only [DS, reduceCtorEq]; done) | omega) only [WS, St.guard, St.put, evalO, reduceCtorEq, reduceIte, Nat.reduceAdd, Nat.reduceEqDiff, fin_tmp, leave_v]
      simp
end Go.AM
