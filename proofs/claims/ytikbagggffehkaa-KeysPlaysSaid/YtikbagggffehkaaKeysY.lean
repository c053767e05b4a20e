import Derived.Test.YtikbagggffehkaaKeysX
set_option linter.unusedVariables false
set_option linter.unusedSimpArgs false
namespace Go.AM
open Go.RowKit
variable {P : Program} {fid : String → Option FuncId} {base : Nat} {w0 : World} {prog0 : String → Option IFn}
theorem get_last {α : Type} (G : List α) (x : α) : (G ++ [x])[G.length]? = some x := by simp
theorem xIns_ok (hprog0 : ∀ f F, prog0 f = some F → ∃ id fn, fid f = some id ∧ P.funcs[id]? = some fn ∧ chkFn P fid fn F = true) (hf : prog0 insNm = some f_slices_Insert___api_Seen_api_Seen_) :
    XOk P fid base w0 insNm := by
  intro args G r hx
  unfold xRun at hx
  rw [if_pos rfl] at hx
  have hE : ∀ {args G r G2}, Ev prog0 (.call insNm args G) (.ret r G2) → CallSem P fid base w0 insNm args G r G2 := fun h => ev_sound hprog0 h
  unfold xIns at hx
  split at hx <;> first | (cases hx; done) | skip
  rename_i s i q
  split at hx <;> first | (cases hx; done) | skip
  rename_i V hV
  split at hx <;> first | (cases hx; done) | skip
  rename_i hc
  obtain ⟨v1, v2, v3, v4⟩ := hc
  have hq : G[q]? = some (some V) := by
    cases h : G[q]? with
    | none => rw [h] at hV; cases hV
    | some y => rw [h] at hV; cases y <;> simp at hV; rw [hV]
  split at hx <;> first | (cases hx; done) | skip
  · -- nothing yet
    split at hx <;> cases hx
    rename_i h0
    obtain ⟨rfl, b3⟩ := h0
    exact hE (ins_nil hf hq v1 b3)
  · rename_i p n len cap
    split at hx <;> first | (cases hx; done) | skip
    rename_i B hB
    have hp : G[p]? = some (some B) := by
      cases h : G[p]? with
      | none => rw [h] at hB; cases hB
      | some y => rw [h] at hB; cases y <;> simp at hB; rw [hB]
    split at hx
    · split at hx <;> cases hx
      rename_i h0
      obtain ⟨rfl, rfl, rfl, rfl, b1, b2, b3⟩ := h0
      exact hE (ins_zero hf hp hq b1 b2 v1 b3)
    · split at hx <;> cases hx
      rename_i h0
      obtain ⟨hne, rfl, b1, b2, b3, b4, b6, b5, b7, b8, i0, i1, l0, l1⟩ := h0
      obtain ⟨j, rfl⟩ : ∃ j : Nat, i = j := ⟨i.toNat, by omega⟩
      simp only [Int.toNat_natCast] at i1 ⊢
      by_cases hend : j = len
      · subst hend
        have := ins_end hf hp hq hne b1 b2 b3 b4 b5 b6 b7 v1 l0 l1
        rw [List.take_of_length_le (by omega), List.drop_eq_nil_of_le (by omega), List.append_nil]
        exact hE this
      have hj : j < len := by omega
      obtain ⟨id, fn, hid, hfn, hck⟩ := hprog0 _ _ hf
      have hname : fn.name ≠ "runtime.NumGoroutine" := by
        unfold chkFn at hck
        simp only [Bool.and_eq_true, bne_iff_ne, ne_eq] at hck
        exact hck.1.1.2
      have hbody : fn.body.isSome = true := by
        unfold chkFn at hck
        simp only [Bool.and_eq_true] at hck
        cases hb : fn.body with
        | none => rw [hb] at hck; cases hck.2
        | some c => rfl
      refine ⟨id, fn, hid, hfn, hname, hbody, fun vs w μ S hO E => ?_⟩
      obtain ⟨x, vs1, rfl, Rx, E1⟩ := E.cons_inv
      obtain ⟨y, vs2, rfl, Ry, E2⟩ := E1.cons_inv
      obtain ⟨z, vs3, rfl, Rz, E3⟩ := E2.cons_inv
      have := E3.nil_inv; subst this
      have hb : (⟨G, []⟩ : Hp).get (.o p) = some B := by simp [Hp.get, hp]
      have ok := Rx.own_inv S hb b1
      unfold OwnOK at ok
      rw [if_neg (by simp [b4])] at ok
      obtain ⟨a, C, rfl, g2, g3, g4, g5, g6, g7⟩ := ok
      simp only at g3 g4 g6 g7
      have ha := g3.resolve_left (by omega)
      subst ha
      have g6 := g6 trivial
      obtain ⟨c, e, lo, hi, k1, k2, k3, k4, k5, k6, k7, k8⟩ := (S.ok.blk (.o p) B hb).row b4
      obtain ⟨sz, hsz⟩ : ∃ sz, sz = (μ (.o p)).2 := ⟨_, rfl⟩
      rw [← hsz] at g4 k2 k3 k4
      obtain ⟨Bc, hBc⟩ : ∃ Bc : Blk, Bc = { cells := B.cells ++ List.replicate (sz - len * 3) .dead, opn := false, wr := true, data := true, virt := false } := ⟨_, rfl⟩
      have hBcl : Bc.cells.length = sz := by rw [hBc]; simp; omega
      have hBcf : AV.lf.lfs Bc.cells = true := by
        rw [hBc, lfs_append, b8, Bool.true_and, lfs_iff]
        intro y hy
        rw [List.mem_replicate] at hy
        rw [hy.2]; rfl
      have u : Upd w μ (⟨G, []⟩ : Hp).get w (.o p) (μ (.o p)).1 sz Bc := by
        refine ⟨fun _ _ _ => rfl, Nat.le_refl _, rfl, rfl, rfl, .inl rfl, fun _ _ => .inl ⟨B, hb, b3, b4, rfl⟩, fun B0 h0 => ?_, fun _ => .inr ⟨B, hb, b4, rfl⟩⟩
        rw [hb] at h0; cases h0
        by_cases h : sz = len * 3
        · exact .inl ⟨by rw [hBcl, b1, h], by rw [hBc, b4], by rw [hsz]⟩
        · exact .inr (by rw [hBcl]; omega)
      have p1 := u.pres
      have S1 := u.sim S (fun _ _ => rfl) ⟨fun h => by rw [hBc] at h; (cases h), fun _ => hBcf, fun _ => by
        refine ⟨c, e, lo, hi, k1, k2, k3.imp (fun h => h) fun h => ⟨h.1, by rw [hBc]⟩, by omega, fun _ => hBcl, k6, k7, fun i a ha => ?_⟩
        rw [hBc] at ha
        simp only at ha
        by_cases hi : i < B.cells.length
        · rw [List.getElem?_append_left hi] at ha
          obtain ⟨x, hx, r⟩ := k8 i a ha
          exact ⟨x, hx, r.pres p1⟩
        · rw [List.getElem?_append_right (by omega), List.getElem?_replicate] at ha
          split at ha <;> cases ha
          exact ⟨c[i]'(by omega), Array.getElem?_eq_getElem (by omega), .dead _⟩⟩
      have hg1 : (⟨G.set p (some Bc), []⟩ : Hp).get = upd (⟨G, []⟩ : Hp).get (.o p) (some Bc) := put_get (h := ⟨G, []⟩) hb Bc
      have hμ : upd μ (.o p) ((μ (.o p)).1, sz) = μ := upd_self _ _ _ (by rw [hsz])
      rw [hμ, ← hg1] at S1 p1
      have hlt : p < G.length := lt_of_get hp
      have hp1 : (G.set p (some Bc))[p]? = some (some Bc) := by rw [List.getElem?_set, if_pos rfl, if_pos hlt]
      have hq1 : (G.set p (some Bc))[q]? = some (some V) := by rw [List.getElem?_set, if_neg hne]; exact hq
      have hO1 : Ord (G.set p (some Bc)) := by
        intro k X hk
        rw [List.getElem?_set] at hk
        split at hk
        · cases hk
          rw [hBc]; rfl
        · exact hO k X hk
      have hM1 : info μ (⟨G.set p (some Bc), []⟩ : Hp).get (.o p) = some ⟨(μ (.o p)).1, sz, false, sz⟩ := by
        simp only [info, Hp.get, hp1, Option.join_some, Option.map_some, hBcl, ← hsz]
        rw [hBc]
      have R1 : Reps fid w (Wr μ (⟨G.set p (some Bc), []⟩ : Hp).get) (info μ (⟨G.set p (some Bc), []⟩ : Hp).get) [.slice (some ⟨(μ (.o p)).1, 0, none⟩) len C, y, z] [.own (.o p) sz 0 len 3 (some C), .v (.int .i64 (j : Int)), .own (.o q) 3 0 1 3 (some 1)] := by
        refine .cons (.own hM1 (Nat.le_refl _) (fun _ => ?_) ⟨_, _, rfl, g2, fun h => (by cases h), fun c h => (by cases h; rfl)⟩) (.cons (Ry.pres p1) (.cons (Rz.pres p1) .nil))
        unfold OwnOK
        rw [if_neg (by simp)]
        exact ⟨_, _, rfl, g2, .inr rfl, g4, fun c h => by cases h; exact ⟨rfl, by simp only; omega⟩, fun h => (by cases h), by simp only; omega⟩
      obtain ⟨Bt, hBt⟩ : ∃ Bt : Blk, Bt = { B with cells := B.cells.take (j * 3) ++ V.cells ++ B.cells.drop (j * 3) } := ⟨_, rfl⟩
      have hBtl : Bt.cells.length = (len + 1) * 3 := by rw [hBt]; simp [b1, v1]; omega
      have hBtf : AV.lf.lfs Bt.cells = true := by rw [hBt]; simp only [lfs_append, lfs_take b8, lfs_drop b8, b7, Bool.and_self]
      rw [← hBt]
      have hOt : Ord (G.set p (some Bt)) := by
        intro k X hk
        rw [List.getElem?_set] at hk
        split at hk
        · cases hk
          have : Bt.data = true := by rw [hBt]; exact b6
          simp [Blk.labs, this]
        · exact hO k X hk
      have hgt : (⟨G.set p (some Bt), []⟩ : Hp).get = upd (⟨G, []⟩ : Hp).get (.o p) (some Bt) := put_get (h := ⟨G, []⟩) hb Bt
      have fin : ∀ {G2 : List (Option Blk)} {m : Nat} {Bn : Blk} {N : Nat} {capN : Option Nat}, Ev prog0 (.call insNm [.own (.o p) sz 0 len 3 (some C), .v (.int .i64 (j : Int)), .own (.o q) 3 0 1 3 (some 1)] (G.set p (some Bc))) (.ret (.own (.o m) N 0 (len + 1) 3 capN) G2) →
          G2[m]? = some (some Bn) → Bn.virt = false → (∀ k, k ≠ p → ∀ B0, G[k]? = some (some B0) → G2[k]? = some (some B0) ∧ k ≠ m) → Bn.wr = true →
          (∀ (i : Nat) a, Bt.cells[i]? = some a → Bn.cells[i]? = some a) → Bn.cells.length = N → (len + 1) * 3 ≤ N →
          Calls P id [.slice (some ⟨(μ (.o p)).1, 0, none⟩) len C, y, z].toArray w fun e w' => ∃ y, e = .returned y ∧ Post fid base w0 w μ (⟨G, []⟩ : Hp).get w' (⟨G.set p (some Bt), []⟩ : Hp).get y (.own (.o p) ((len + 1) * 3) 0 (len + 1) 3 none) ∧ Ord (G.set p (some Bt)) := by
        intro G2 m Bn N capN hrun hm hvn hoth hwn hpre hN hle
        obtain ⟨id', fn', hid', hfn', _, _, hcs⟩ := hE hrun
        rw [hid] at hid'; cases hid'
        refine Calls.mono (hcs _ w μ S1 hO1 R1) ?_
        rintro e w' ⟨y2, rfl, ⟨μ2, S2, p2, R2⟩, hO2⟩
        have hm2 : (⟨G2, []⟩ : Hp).get (.o m) = some Bn := by simp [Hp.get, hm]
        obtain ⟨S3, p3⟩ := sim_turned (Bt := Bt) S S2 (p1.trans p2) (p := .o p) (m := .o m) hb hm2 hvn (fun ℓ hℓ B0 h0 => by
          cases ℓ with
          | l k => simp [Hp.get] at h0
          | o k =>
            have hk : k ≠ p := fun e => hℓ (by rw [e])
            have := hoth k hk B0 (get_o.1 h0)
            exact ⟨get_o.2 this.1, fun e => this.2 (by cases e; rfl)⟩) (fun _ => hwn) (by rw [hBt]; exact b4) hBtf hpre (by rw [hBt]; exact b2) (by rw [hBt]; exact b5) (by rw [hBtl]; omega) (by rw [hBtl, hN]; exact hle)
        rw [← hgt] at S3 p3
        refine ⟨y2, rfl, ⟨_, S3, p3, ?_⟩, hOt⟩
        have ok2 := R2.own_inv S2 hm2 hN
        unfold OwnOK at ok2
        rw [if_neg (by simp [hvn])] at ok2
        obtain ⟨a2, C2, rfl, f2, f3, f4, f5, f6, f7⟩ := ok2
        simp only at f3 f4 f5 f6 f7
        have hIt : info (upd μ2 (.o p) (μ2 (.o m))) (⟨G.set p (some Bt), []⟩ : Hp).get (.o p) = some ⟨(μ2 (.o m)).1, (len + 1) * 3, false, (μ2 (.o m)).2⟩ := by
          rw [hgt]
          simp only [info, upd, if_true, Option.map_some, hBtl]
          rw [hBt]
          simp only [b4]
        refine .own hIt (Nat.le_refl _) (fun _ => ?_) ⟨_, _, rfl, f2, fun h => (by cases h), fun c h => (by cases h)⟩
        unfold OwnOK
        rw [if_neg (by simp)]
        exact ⟨_, _, rfl, f2, f3, f4, fun c h => (by cases h), fun _ => by simp only; omega, by simp only; omega⟩
      have hV' : V = { cells := V.cells, opn := V.opn, wr := V.wr, data := true, virt := false, plain := true } := by cases V; simp_all
      rw [hV'] at hq1
      have hp2 : (G.set p (some Bc))[p]? = some (some { cells := B.cells ++ List.replicate (sz - len * 3) .dead, opn := false, wr := true, data := true, virt := false }) := hp1.trans (by rw [hBc])
      have hl2 : (B.cells ++ List.replicate (sz - len * 3) AV.dead).length = sz := by rw [hBc] at hBcl; exact hBcl
      have hf2 : AV.lf.lfs (B.cells ++ List.replicate (sz - len * 3) AV.dead) = true := by rw [hBc] at hBcf; exact hBcf
      by_cases hC : len + 1 ≤ C
      · have hrun := ins_in hf hp2 hq1 hne hl2 v1 hj hC (by omega) b7 hf2 l1
        refine fin hrun (List.getElem?_set_self (by simpa using hlt)) rfl ?_ rfl ?_ ?_ (by omega)
        · intro k hk B0 h0
          rw [List.set_set, List.getElem?_set, if_neg (Ne.symm hk)]
          exact ⟨h0, hk⟩
        · intro i a hi
          rw [hBt] at hi
          obtain ⟨rest, hr⟩ := ins_cells_in (B := B.cells) (V := V.cells) (D := List.replicate (sz - len * 3) AV.dead) (len := len) (j := j) b1 v1 hj
          simp only
          rw [hr, List.getElem?_append_left (List.getElem?_eq_some_iff.1 hi).1]
          exact hi
        · simp only [lay, List.length_append, List.length_take, List.length_drop, List.length_replicate, v1, b1]
          omega
      · have hrun := ins_out hf hp2 hq1 hne hl2 v1 hj (by omega) g2 (by omega) b7 hf2 l1
        refine fin hrun (get_last _ _) rfl ?_ rfl ?_ ?_ (Nat.le_refl _)
        · intro k hk B0 h0
          have hkl := lt_of_get h0
          rw [List.getElem?_append_left (by simpa using hkl), List.getElem?_set, if_neg (Ne.symm hk)]
          exact ⟨h0, by simp; omega⟩
        · intro i a hi
          rw [hBt] at hi
          simp only
          rw [ins_cells_out (B := B.cells) (V := V.cells) (D := List.replicate (sz - len * 3) AV.dead) (len := len) (j := j) b1 v1 hj]
          exact hi
        · simp only
          rw [ins_cells_out (B := B.cells) (V := V.cells) (D := List.replicate (sz - len * 3) AV.dead) (len := len) (j := j) b1 v1 hj]
          simp [b1, v1]; omega
end Go.AM
