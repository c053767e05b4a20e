import Derived.Test.YtphknfgiljkjaaaAMD
set_option linter.unusedVariables false
set_option linter.unusedSimpArgs false
namespace Go.AM
open Go.RowKit
def fillL (E : Nat → Bool) (X : Nat → Option Blk) (L : List (Option Blk)) : List (Option Blk) := L.mapIdx fun k B => if E k then X k else B
variable {E F : Nat → Bool} {X Y : Nat → Option Blk}
theorem fillL_get {L : List (Option Blk)} {k : Nat} : (fillL E X L)[k]? = (L[k]?).map fun B => if E k then X k else B := by
  simp only [fillL, List.getElem?_mapIdx]
theorem fillL_len {L : List (Option Blk)} : (fillL E X L).length = L.length := by simp [fillL]
theorem fillL_set {L : List (Option Blk)} {k : Nat} {B : Option Blk} (hk : E k = false) : fillL E X (L.set k B) = (fillL E X L).set k B := by
  apply List.ext_getElem?
  intro i
  rw [fillL_get, List.getElem?_set, List.getElem?_set, fillL_len, fillL_get]
  by_cases h : k = i
  · subst h
    rw [if_pos rfl, if_pos rfl]
    by_cases hl : k < L.length <;> simp [hl, hk]
  · rw [if_neg h, if_neg h]
theorem fillL_no {L : List (Option Blk)} (h : ∀ k, k < L.length → E k = false) : fillL E X L = L := by
  apply List.ext_getElem?
  intro i
  simp only [fillL_get]
  by_cases hi : i < L.length
  · rw [List.getElem?_eq_getElem hi]; simp [h i hi]
  · rw [List.getElem?_eq_none (by omega)]; rfl
theorem fillL_app {A B : List (Option Blk)} (h : ∀ k, E k = true → k < A.length) : fillL E X (A ++ B) = fillL E X A ++ B := by
  apply List.ext_getElem?
  intro i
  by_cases hi : i < A.length
  · rw [fillL_get, List.getElem?_append_left hi, List.getElem?_append_left (by rw [fillL_len]; exact hi), fillL_get]
  · rw [fillL_get, List.getElem?_append_right (by omega), List.getElem?_append_right (by rw [fillL_len]; omega), fillL_len]
    have : E i = false := by
      cases he : E i with
      | false => rfl
      | true => exact absurd (h i he) hi
    simp [this]
theorem fillL_take {G : List (Option Blk)} {g : Nat} : (fillL E X G).take g = fillL E X (G.take g) := by
  apply List.ext_getElem?
  intro i
  rw [fillL_get, List.getElem?_take, List.getElem?_take, fillL_get]
  split <;> rfl
theorem fillL_drop {G : List (Option Blk)} {g : Nat} (h : ∀ k, E k = true → k < g) : (fillL E X G).drop g = G.drop g := by
  apply List.ext_getElem?
  intro i
  rw [List.getElem?_drop, List.getElem?_drop, fillL_get]
  have : E (g + i) = false := by
    cases he : E (g + i) with
    | false => rfl
    | true => have := h _ he; omega
  simp [this]
theorem put_len {h : Hp} {ℓ B} : (h.put ℓ B).L.length = h.L.length := by cases ℓ <;> simp [Hp.put]
theorem new_len {h h' : Hp} {s B} (hn : h.new s B = some h') : h'.L.length = h.L.length := by
  unfold Hp.new at hn
  split at hn <;> cases hn
  simp
theorem freeze_len {h h' : Hp} {a a'} (hf : h.freeze a = some (a', h')) : h'.L.length = h.L.length := by
  unfold Hp.freeze at hf
  split at hf
  · split at hf
    · split at hf <;> cases hf
      exact put_len
    · cases hf
  · cases hf; rfl
theorem freezes_len : ∀ {as as' : List AV} {h h' : Hp}, h.freezes as = some (as', h') → h'.L.length = h.L.length
  | [], _, h, h', hf => by cases hf; rfl
  | a :: as, as', h, h', hf => by
    simp only [Hp.freezes] at hf
    obtain ⟨⟨a', h2⟩, e1, e2⟩ := Option.bind_eq_some_iff.1 hf
    obtain ⟨⟨bs, h3⟩, e3, e4⟩ := Option.map_eq_some_iff.1 e2
    cases e4
    exact (freezes_len e3).trans (freeze_len e1)
theorem mayFreeze_len {frz} {as as' : List AV} {h h' : Hp} (hf : h.mayFreeze frz as = some (as', h')) : h'.L.length = h.L.length := by
  unfold Hp.mayFreeze at hf
  split at hf
  · exact freezes_len hf
  · cases hf; rfl
theorem kids_len {site} : ∀ {kids : List (Nat × Nat × Nat)} {h h' : Hp} {cells cells' : List AV}, kidsIn h site cells kids = some (cells', h') → h'.L.length = h.L.length
  | [], h, h', _, _, hp => by cases hp; rfl
  | (j, s, esz) :: ks, h, h', cells, cells', hp => by
    simp only [kidsIn] at hp
    split at hp
    · obtain ⟨h2, e, e2⟩ := Option.bind_eq_some_iff.1 hp
      exact (kids_len e2).trans (new_len e)
    · cases hp
theorem append_len {h h' : Hp} {site esz bytes k : Nat} {s r : AV} {new : List AV} (hp : h.append site esz bytes s k new = some (r, h')) : h'.L.length = h.L.length := by
  unfold Hp.append at hp
  split at hp <;> first | (cases hp; done) | skip
  split at hp
  · split at hp
    · cases hp; rfl
    · split at hp <;> first | (cases hp; done) | skip
      obtain ⟨h2, hn, he⟩ := Option.map_eq_some_iff.1 hp
      cases he; exact new_len hn
  · split at hp <;> first | (cases hp; done) | skip
    split at hp <;> first | (cases hp; done) | skip
    split at hp
    · cases hp; rfl
    split at hp
    · split at hp
      · split at hp <;> cases hp
        exact put_len
      · obtain ⟨h2, hn, he⟩ := Option.map_eq_some_iff.1 hp
        cases he; exact new_len hn
    · split at hp <;> first | (cases hp; done) | skip
      split at hp
      · cases hp; exact put_len
      split at hp <;> cases hp
      exact put_len
  · split at hp <;> cases hp
    rfl
  · cases hp
theorem copy_len {h h' : Hp} {esz k : Nat} {d : AV} {src : List AV} (hp : h.copyInto esz d src k = some h') : h'.L.length = h.L.length := by
  unfold Hp.copyInto at hp
  split at hp
  · cases hp; rfl
  split at hp <;> first | (cases hp; done) | skip
  split at hp <;> first | (cases hp; done) | skip
  split at hp <;> cases hp
  exact put_len
theorem prim_len {h h' : Hp} {p : Prim} {xs : List AV} {r : AV} (hp : prim h p xs = some (r, h')) : h'.L.length = h.L.length := by
  by_cases hf : p.free = true
  · rw [(free_prim hf hp).1]
  · cases p <;> simp only [Prim.free, reduceCtorEq, not_true_eq_false, not_false_eq_true] at hf <;> simp only [prim] at hp <;> first | (cases hp; done) | skip
    · split at hp <;> first | (cases hp; done) | skip
      obtain ⟨h2, hn, he⟩ := Option.map_eq_some_iff.1 hp
      cases he; exact new_len hn
    · split at hp <;> first | (cases hp; done) | skip
      obtain ⟨h1, hn, hp1⟩ := Option.bind_eq_some_iff.1 hp
      obtain ⟨⟨cells, h2⟩, hk, he⟩ := Option.map_eq_some_iff.1 hp1
      cases he
      exact put_len.trans ((kids_len hk).trans (new_len hn))
    · split at hp <;> first | (cases hp; done) | skip
      obtain ⟨cs, hcs, hp1⟩ := Option.bind_eq_some_iff.1 hp
      obtain ⟨h2, hn, he⟩ := Option.map_eq_some_iff.1 hp1
      cases he; exact new_len hn
    · split at hp <;> first | (cases hp; done) | skip
      obtain ⟨cs, hcs, hp0⟩ := Option.bind_eq_some_iff.1 hp
      obtain ⟨h1, hn, hp1⟩ := Option.bind_eq_some_iff.1 hp0
      obtain ⟨⟨cells, h2⟩, hk, he⟩ := Option.map_eq_some_iff.1 hp1
      cases he
      exact put_len.trans ((kids_len hk).trans (new_len hn))
    · obtain ⟨⟨as', h1⟩, hfz, hp1⟩ := Option.bind_eq_some_iff.1 hp
      obtain ⟨cs, hf, hp2⟩ := Option.bind_eq_some_iff.1 hp1
      split at hp2 <;> first | (cases hp2; done) | skip
      obtain ⟨h2, hn, he⟩ := Option.map_eq_some_iff.1 hp2
      cases he; exact (new_len hn).trans (mayFreeze_len hfz)
    · split at hp <;> first | (cases hp; done) | skip
      · split at hp <;> first | (cases hp; done) | skip
        split at hp <;> first | (cases hp; done) | skip
        obtain ⟨_, _, he⟩ := Option.map_eq_some_iff.1 hp
        cases he; rfl
      · split at hp <;> first | (cases hp; done) | skip
        obtain ⟨_, _, he⟩ := Option.map_eq_some_iff.1 hp
        cases he; rfl
    · split at hp <;> first | (cases hp; done) | skip
      split at hp <;> first | (cases hp; done) | skip
      split at hp <;> first | (cases hp; done) | skip
      split at hp <;> first | (cases hp; done) | skip
      obtain ⟨_, _, he⟩ := Option.map_eq_some_iff.1 hp
      cases he; rfl
    · split at hp <;> first | (cases hp; done) | skip
      obtain ⟨cs0, hcs0, hp1⟩ := Option.bind_eq_some_iff.1 hp
      obtain ⟨⟨cs, h1⟩, hfz, hp2⟩ := Option.bind_eq_some_iff.1 hp1
      simp only at hp2
      split at hp2 <;> first | (cases hp2; done) | skip
      rename_i B hb
      split at hp2 <;> cases hp2
      exact put_len.trans (mayFreeze_len hfz)
    · split at hp <;> first | (cases hp; done) | skip
      split at hp
      · obtain ⟨_, _, he⟩ := Option.map_eq_some_iff.1 hp
        cases he; rfl
      · split at hp <;> first | (cases hp; done) | skip
        obtain ⟨_, _, he⟩ := Option.map_eq_some_iff.1 hp
        cases he; rfl
    · split at hp <;> first | (cases hp; done) | skip
      obtain ⟨h2, hn, he⟩ := Option.map_eq_some_iff.1 hp
      cases he; exact new_len hn
    · split at hp <;> first | (cases hp; done) | skip
      obtain ⟨cs, _, hp1⟩ := Option.bind_eq_some_iff.1 hp
      split at hp1 <;> first | (cases hp1; done) | skip
      obtain ⟨_, _, he⟩ := Option.map_eq_some_iff.1 hp1
      cases he; rfl
    · split at hp <;> first | (cases hp; done) | skip
      split at hp <;> first | (cases hp; done) | skip
      split at hp <;> cases hp
      rfl
    · split at hp <;> first | (cases hp; done) | skip
      obtain ⟨len, hl, hp1⟩ := Option.bind_eq_some_iff.1 hp
      obtain ⟨cap, hc, hp2⟩ := Option.bind_eq_some_iff.1 hp1
      split at hp2 <;> first | (cases hp2; done) | skip
      obtain ⟨h2, hn, he⟩ := Option.map_eq_some_iff.1 hp2
      cases he; exact new_len hn
    · split at hp <;> first | (cases hp; done) | skip
      obtain ⟨⟨k, new⟩, hsrc, hp1⟩ := Option.bind_eq_some_iff.1 hp
      obtain ⟨⟨new', h1⟩, hfz, hp2⟩ := Option.bind_eq_some_iff.1 hp1
      exact (append_len hp2).trans (mayFreeze_len hfz)
    · split at hp <;> first | (cases hp; done) | skip
      obtain ⟨k, hk, hp1⟩ := Option.bind_eq_some_iff.1 hp
      split at hp1 <;> first | (cases hp1; done) | skip
      exact append_len hp1
    · split at hp <;> first | (cases hp; done) | skip
      obtain ⟨m, hm, hp1⟩ := Option.bind_eq_some_iff.1 hp
      obtain ⟨⟨k, src⟩, hsrc, hp2⟩ := Option.bind_eq_some_iff.1 hp1
      simp only at hp2
      split at hp2 <;> first | (cases hp2; done) | skip
      obtain ⟨h1, hc, he⟩ := Option.map_eq_some_iff.1 hp2
      cases he
      exact copy_len hc
    · obtain ⟨cs, hf, hp2⟩ := Option.bind_eq_some_iff.1 hp
      split at hp2 <;> first | (cases hp2; done) | skip
      obtain ⟨h2, hn, he⟩ := Option.map_eq_some_iff.1 hp2
      cases he; exact new_len hn
    · obtain ⟨⟨as', h1⟩, hfz, hp1⟩ := Option.bind_eq_some_iff.1 hp
      obtain ⟨cs, hf, he⟩ := Option.map_eq_some_iff.1 hp1
      cases he
      exact freezes_len hfz
    · split at hp <;> first | (cases hp; done) | skip
      split at hp <;> first | (cases hp; done) | skip
      split at hp <;> cases hp
      rfl
    · split at hp <;> first | (cases hp; done) | skip
      split at hp <;> first | (cases hp; done) | skip
      split at hp <;> cases hp
      rfl
structure Sub (E F : Nat → Bool) (X Y : Nat → Option Blk) (h h' : Hp) : Prop where
  eG : h'.G = fillL E X h.G
  eL : h'.L = fillL F Y h.L
  oG : ∀ p, E p = true → h.G[p]? = some none
  oL : ∀ k, F k = true → h.L[k]? = some none
variable {h h' h1 : Hp}
theorem Sub.lenG (S : Sub E F X Y h h') : h'.G.length = h.G.length := by rw [S.eG, fillL_len]
theorem Sub.get (S : Sub E F X Y h h') {ℓ B} (hg : h.get ℓ = some B) : h'.get ℓ = some B := by
  cases ℓ with
  | l k =>
    have e := get_l.1 (show (⟨h.G, h.L⟩ : Hp).get (.l k) = some B from hg)
    have : F k = false := by
      cases hf : F k with
      | false => rfl
      | true => rw [S.oL k hf] at e; cases e
    show (h'.L[k]?).join = some B
    rw [S.eL, fillL_get, e]; simp [this]
  | o p =>
    have e := get_o.1 (show (⟨h.G, h.L⟩ : Hp).get (.o p) = some B from hg)
    have : E p = false := by
      cases hf : E p with
      | false => rfl
      | true => rw [S.oG p hf] at e; cases e
    show (h'.G[p]?).join = some B
    rw [S.eG, fillL_get, e]; simp [this]
theorem Sub.put (S : Sub E F X Y h h') {ℓ B B'} (hg : h.get ℓ = some B) : Sub E F X Y (h.put ℓ B') (h'.put ℓ B') := by
  cases ℓ with
  | l k =>
    have e := get_l.1 (show (⟨h.G, h.L⟩ : Hp).get (.l k) = some B from hg)
    have hf : F k = false := by
      cases hf : F k with
      | false => rfl
      | true => rw [S.oL k hf] at e; cases e
    refine ⟨S.eG, ?_, S.oG, fun j hj => ?_⟩
    · simp only [Hp.put]; rw [S.eL, fillL_set hf]
    · simp only [Hp.put]
      rw [List.getElem?_set, if_neg (by intro h; subst h; rw [hf] at hj; cases hj)]
      exact S.oL j hj
  | o p =>
    have e := get_o.1 (show (⟨h.G, h.L⟩ : Hp).get (.o p) = some B from hg)
    have hf : E p = false := by
      cases hf : E p with
      | false => rfl
      | true => rw [S.oG p hf] at e; cases e
    refine ⟨?_, S.eL, fun j hj => ?_, S.oL⟩
    · simp only [Hp.put]; rw [S.eG, fillL_set hf]
    · simp only [Hp.put]
      rw [List.getElem?_set, if_neg (by intro h; subst h; rw [hf] at hj; cases hj)]
      exact S.oG j hj
theorem Sub.new (S : Sub E F X Y h h') {s B} (hn : h.new s B = some h1) (hf : F s = false) : ∃ h1', h'.new s B = some h1' ∧ Sub E F X Y h1 h1' := by
  unfold Hp.new at hn
  split at hn <;> cases hn
  rename_i e
  refine ⟨{ h' with L := h'.L.set s (some B) }, ?_, S.eG, ?_, S.oG, fun j hj => ?_⟩
  · unfold Hp.new
    rw [S.eL, fillL_get, e]; simp [hf]
  · simp only; rw [S.eL, fillL_set hf]
  · simp only
    rw [List.getElem?_set, if_neg (by intro h; subst h; rw [hf] at hj; cases hj)]
    exact S.oL j hj
theorem Sub.freeze (S : Sub E F X Y h h') {a a'} (hf : h.freeze a = some (a', h1)) : ∃ h1', h'.freeze a = some (a', h1') ∧ Sub E F X Y h1 h1' := by
  unfold Hp.freeze at hf
  split at hf
  · split at hf
    · rename_i B hB
      split at hf <;> cases hf
      rename_i hc
      refine ⟨_, ?_, S.put hB⟩
      simp only [Hp.freeze, S.get hB]
      rw [if_pos hc]
    · cases hf
  · rename_i hno
    cases hf
    refine ⟨h', ?_, S⟩
    unfold Hp.freeze
    split
    · exact absurd rfl (hno _ _ _ _ _ _)
    · rfl
theorem Sub.freezes : ∀ {as as' : List AV} {h h' h1 : Hp}, Sub E F X Y h h' → h.freezes as = some (as', h1) → ∃ h1', h'.freezes as = some (as', h1') ∧ Sub E F X Y h1 h1'
  | [], _, h, h', h1, S, hf => by cases hf; exact ⟨h', rfl, S⟩
  | a :: as, as', h, h', h1, S, hf => by
    simp only [Hp.freezes] at hf
    obtain ⟨⟨a', h2⟩, e1, e2⟩ := Option.bind_eq_some_iff.1 hf
    obtain ⟨⟨bs, h3⟩, e3, e4⟩ := Option.map_eq_some_iff.1 e2
    cases e4
    obtain ⟨k2, f2, S2⟩ := S.freeze e1
    obtain ⟨k3, f3, S3⟩ := Sub.freezes S2 e3
    exact ⟨k3, by simp only [Hp.freezes, f2, Option.bind_some, f3, Option.map_some], S3⟩
theorem Sub.mayFreeze (S : Sub E F X Y h h') {frz} {as as'} (hf : h.mayFreeze frz as = some (as', h1)) : ∃ h1', h'.mayFreeze frz as = some (as', h1') ∧ Sub E F X Y h1 h1' := by
  unfold Hp.mayFreeze at hf ⊢
  split at hf
  · rename_i hc; rw [if_pos hc]; exact S.freezes hf
  · rename_i hc; rw [if_neg hc]; cases hf; exact ⟨h', rfl, S⟩
theorem Sub.sees (S : Sub E F X Y h h') {a cs} (hs : h.sees a = some cs) : h'.sees a = some cs := by
  unfold Hp.sees at hs
  split at hs
  · exact hs
  · exact hs
  · split at hs
    · rename_i B hB; simp only [Hp.sees, S.get hB]; exact hs
    · cases hs
  · cases hs
theorem Sub.isNil (S : Sub E F X Y h h') {k a b} (hs : h.isNil k a = some b) : h'.isNil k a = some b := by
  unfold Hp.isNil at hs
  split at hs
  case h_2 =>
    split at hs
    · rename_i B hB; simp only [Hp.isNil, S.get hB]; exact hs
    · cases hs
  all_goals first | exact hs | cases hs
theorem Sub.source (S : Sub E F X Y h h') {a q} (hs : h.source a = some q) : h'.source a = some q := by
  unfold Hp.source at hs ⊢
  split at hs
  · exact hs
  · split at hs
    · rename_i e1 e2
      cases hs
      simp only [e1, S.sees e2]
    · cases hs
theorem Sub.append (S : Sub E F X Y h h') {site esz bytes s k new a} (hf : F site = false) (hp : h.append site esz bytes s k new = some (a, h1)) :
    ∃ h1', h'.append site esz bytes s k new = some (a, h1') ∧ Sub E F X Y h1 h1' := by
  unfold Hp.append at hp ⊢
  split at hp
  case isFalse => cases hp
  rename_i hl
  rw [if_pos hl]
  split at hp
  · split at hp
    · rename_i h0; rw [if_pos h0]; cases hp; exact ⟨h', rfl, S⟩
    · rename_i h0
      rw [if_neg h0]
      split at hp
      · rename_i hr
        rw [if_pos hr]
        obtain ⟨h2, e, e2⟩ := Option.map_eq_some_iff.1 hp
        cases e2
        obtain ⟨k2, f2, S2⟩ := S.new e hf
        exact ⟨k2, by rw [f2]; rfl, S2⟩
      · cases hp
  · split at hp
    · cases hp
    · rename_i B hB
      simp only [S.get hB]
      split at hp
      case isFalse => cases hp
      rename_i hc
      rw [if_pos hc]
      split at hp
      · rename_i h0; rw [if_pos h0]; cases hp; exact ⟨h', rfl, S⟩
      rename_i h0
      rw [if_neg h0]
      split at hp
      · split at hp
        · rename_i h2
          rw [if_pos h2]
          split at hp
          · rename_i h3; rw [if_pos h3]; cases hp; exact ⟨_, rfl, S.put hB⟩
          · cases hp
        · rename_i h2
          rw [if_neg h2]
          obtain ⟨h2, e, e2⟩ := Option.map_eq_some_iff.1 hp
          cases e2
          obtain ⟨k2, f2, S2⟩ := S.new e hf
          exact ⟨k2, by rw [f2]; rfl, S2⟩
      · split at hp
        · cases hp
        rename_i h2
        rw [if_neg h2]
        split at hp
        · rename_i h3; rw [if_pos h3]; cases hp; exact ⟨_, rfl, S.put hB⟩
        rename_i h3
        rw [if_neg h3]
        split at hp
        · rename_i h4; rw [if_pos h4]; cases hp; exact ⟨_, rfl, S.put hB⟩
        · cases hp
  · split at hp
    · rename_i h0; rw [if_pos h0]; cases hp; exact ⟨h', rfl, S⟩
    · cases hp
  · cases hp
theorem Sub.copy (S : Sub E F X Y h h') {esz d src k} (hp : h.copyInto esz d src k = some h1) : ∃ h1', h'.copyInto esz d src k = some h1' ∧ Sub E F X Y h1 h1' := by
  unfold Hp.copyInto at hp ⊢
  split at hp
  · rename_i h0; rw [if_pos h0]; cases hp; exact ⟨h', rfl, S⟩
  rename_i h0
  rw [if_neg h0]
  split at hp
  · split at hp
    · rename_i B hB
      simp only [S.get hB]
      split at hp
      · rename_i hc; rw [if_pos hc]; cases hp; exact ⟨_, rfl, S.put hB⟩
      · cases hp
    · cases hp
  · cases hp
theorem Sub.kids {site} : ∀ {kids : List (Nat × Nat × Nat)} {h h' h1 : Hp} {cells cells' : List AV}, Sub E F X Y h h' → (∀ k ∈ kids, F k.2.1 = false) → kidsIn h site cells kids = some (cells', h1) →
    ∃ h1', kidsIn h' site cells kids = some (cells', h1') ∧ Sub E F X Y h1 h1'
  | [], h, h', h1, cells, cells', S, _, hp => by cases hp; exact ⟨h', rfl, S⟩
  | (j, s, esz) :: ks, h, h', h1, cells, cells', S, hF, hp => by
    simp only [kidsIn] at hp ⊢
    split at hp
    · obtain ⟨h2, e, e2⟩ := Option.bind_eq_some_iff.1 hp
      obtain ⟨k2, f2, S2⟩ := S.new e (hF (j, s, esz) (by simp))
      obtain ⟨k3, f3, S3⟩ := Sub.kids S2 (fun k hk => hF k (by simp [hk])) e2
      exact ⟨k3, by rw [f2, Option.bind_some]; exact f3, S3⟩
    · cases hp
theorem Sub.prim (S : Sub E F X Y h h') {p : Prim} {xs : List AV} {a : AV} (hs : ∀ s ∈ p.sites, F s = false) (hp : prim h p xs = some (a, h1)) :
    ∃ h1', prim h' p xs = some (a, h1') ∧ Sub E F X Y h1 h1' := by
  by_cases hf : p.free = true
  · obtain ⟨rfl, h2⟩ := free_prim hf hp
    exact ⟨h', h2 _, S⟩
  · cases p <;> simp only [Prim.free, reduceCtorEq, not_true_eq_false, not_false_eq_true] at hf <;> simp only [AM.prim] at hp ⊢ <;> first | (cases hp; done) | skip
    · split at hp <;> first | (cases hp; done) | skip
      obtain ⟨h2, hn, he⟩ := Option.map_eq_some_iff.1 hp
      cases he
      obtain ⟨k2, f2, S2⟩ := S.new hn (hs _ (by simp [Prim.sites]))
      exact ⟨k2, by rw [f2]; rfl, S2⟩
    · split at hp <;> first | (cases hp; done) | skip
      obtain ⟨h2, hn, hp1⟩ := Option.bind_eq_some_iff.1 hp
      obtain ⟨⟨cells, h3⟩, hk, he⟩ := Option.map_eq_some_iff.1 hp1
      cases he
      obtain ⟨k2, f2, S2⟩ := S.new hn (hs _ (by simp [Prim.sites]))
      obtain ⟨k3, f3, S3⟩ := Sub.kids S2 (fun k hk => hs _ (by simp only [Prim.sites, List.mem_cons, List.mem_map]; exact .inr ⟨k, hk, rfl⟩)) hk
      refine ⟨_, by rw [f2, Option.bind_some, f3]; rfl, ?_⟩
      rename_i site _ _ _
      have hF := hs site (by simp [Prim.sites])
      refine ⟨S3.eG, ?_, S3.oG, fun j hj => ?_⟩
      · simp only [Hp.put]; rw [S3.eL, fillL_set hF]
      · simp only [Hp.put]
        rw [List.getElem?_set, if_neg (by intro h; subst h; rw [hF] at hj; cases hj)]
        exact S3.oL j hj
    · split at hp <;> first | (cases hp; done) | skip
      obtain ⟨cs, hcs, hp1⟩ := Option.bind_eq_some_iff.1 hp
      obtain ⟨h2, hn, he⟩ := Option.map_eq_some_iff.1 hp1
      cases he
      obtain ⟨k2, f2, S2⟩ := S.new hn (hs _ (by simp [Prim.sites]))
      exact ⟨k2, by rw [hcs, Option.bind_some, f2]; rfl, S2⟩
    · split at hp <;> first | (cases hp; done) | skip
      obtain ⟨cs, hcs, hp0⟩ := Option.bind_eq_some_iff.1 hp
      obtain ⟨h2, hn, hp1⟩ := Option.bind_eq_some_iff.1 hp0
      obtain ⟨⟨cells, h3⟩, hk, he⟩ := Option.map_eq_some_iff.1 hp1
      cases he
      obtain ⟨k2, f2, S2⟩ := S.new hn (hs _ (by simp [Prim.sites]))
      obtain ⟨k3, f3, S3⟩ := Sub.kids S2 (fun k hk => hs _ (by simp only [Prim.sites, List.mem_cons, List.mem_map]; exact .inr ⟨k, hk, rfl⟩)) hk
      refine ⟨_, by rw [hcs, Option.bind_some, f2, Option.bind_some, f3]; rfl, ?_⟩
      rename_i site _ _ _
      have hF := hs site (by simp [Prim.sites])
      refine ⟨S3.eG, ?_, S3.oG, fun j hj => ?_⟩
      · simp only [Hp.put]; rw [S3.eL, fillL_set hF]
      · simp only [Hp.put]
        rw [List.getElem?_set, if_neg (by intro h; subst h; rw [hF] at hj; cases hj)]
        exact S3.oL j hj
    · obtain ⟨⟨as', h2⟩, hfz, hp1⟩ := Option.bind_eq_some_iff.1 hp
      obtain ⟨cs, hf, hp2⟩ := Option.bind_eq_some_iff.1 hp1
      split at hp2 <;> first | (cases hp2; done) | skip
      rename_i hc
      obtain ⟨h3, hn, he⟩ := Option.map_eq_some_iff.1 hp2
      cases he
      obtain ⟨k2, f2, S2⟩ := S.mayFreeze hfz
      obtain ⟨k3, f3, S3⟩ := S2.new hn (hs _ (by simp [Prim.sites]))
      refine ⟨k3, ?_, S3⟩
      rw [f2, Option.bind_some]
      simp only
      rw [hf, Option.bind_some, if_pos hc, f3]; rfl
    · split at hp <;> first | (cases hp; done) | skip
      · split at hp <;> first | (cases hp; done) | skip
        rename_i B hB
        split at hp <;> first | (cases hp; done) | skip
        rename_i hc
        obtain ⟨v, e, he⟩ := Option.map_eq_some_iff.1 hp
        cases he
        exact ⟨h', by simp only [S.get hB]; rw [if_pos hc, e]; rfl, S⟩
      · split at hp <;> first | (cases hp; done) | skip
        rename_i hc
        obtain ⟨v, e, he⟩ := Option.map_eq_some_iff.1 hp
        cases he
        exact ⟨h', by rw [if_pos hc, e]; rfl, S⟩
    · split at hp <;> first | (cases hp; done) | skip
      split at hp <;> first | (cases hp; done) | skip
      rename_i hk
      split at hp <;> first | (cases hp; done) | skip
      rename_i B hB
      split at hp <;> first | (cases hp; done) | skip
      rename_i hc
      obtain ⟨v, e, he⟩ := Option.map_eq_some_iff.1 hp
      cases he
      exact ⟨h', by rw [if_pos hk]; simp only [S.get hB]; rw [if_pos hc, e]; rfl, S⟩
    · split at hp <;> first | (cases hp; done) | skip
      obtain ⟨cs0, hcs0, hp1⟩ := Option.bind_eq_some_iff.1 hp
      obtain ⟨⟨cs, h2⟩, hfz, hp2⟩ := Option.bind_eq_some_iff.1 hp1
      simp only at hp2
      split at hp2 <;> first | (cases hp2; done) | skip
      rename_i B hb
      split at hp2 <;> cases hp2
      rename_i hc
      obtain ⟨k2, f2, S2⟩ := S.mayFreeze hfz
      refine ⟨_, ?_, S2.put hb⟩
      rw [hcs0, Option.bind_some, f2, Option.bind_some]
      simp only [S2.get hb]
      rw [if_pos hc]
    · split at hp <;> first | (cases hp; done) | skip
      split at hp
      · rename_i hc
        obtain ⟨v, e, he⟩ := Option.map_eq_some_iff.1 hp
        cases he
        exact ⟨h', by rw [if_pos hc, S.isNil e]; rfl, S⟩
      · rename_i hc0
        split at hp <;> first | (cases hp; done) | skip
        rename_i hc
        obtain ⟨v, e, he⟩ := Option.map_eq_some_iff.1 hp
        cases he
        exact ⟨h', by rw [if_neg hc0, if_pos hc, S.isNil e]; rfl, S⟩
    · split at hp <;> first | (cases hp; done) | skip
      obtain ⟨h2, hn, he⟩ := Option.map_eq_some_iff.1 hp
      cases he
      obtain ⟨k2, f2, S2⟩ := S.new hn (hs _ (by simp [Prim.sites]))
      exact ⟨k2, by rw [f2]; rfl, S2⟩
    · split at hp <;> first | (cases hp; done) | skip
      obtain ⟨cs, hcs, hp1⟩ := Option.bind_eq_some_iff.1 hp
      split at hp1 <;> first | (cases hp1; done) | skip
      rename_i hc
      obtain ⟨v, e, he⟩ := Option.map_eq_some_iff.1 hp1
      cases he
      exact ⟨h', by rw [S.sees hcs, Option.bind_some, if_pos hc, e]; rfl, S⟩
    · split at hp <;> first | (cases hp; done) | skip
      split at hp <;> first | (cases hp; done) | skip
      rename_i B hB
      split at hp <;> cases hp
      rename_i hc
      exact ⟨h', by simp only [S.get hB]; rw [if_pos hc], S⟩
    · split at hp <;> first | (cases hp; done) | skip
      obtain ⟨len, hl, hp1⟩ := Option.bind_eq_some_iff.1 hp
      obtain ⟨cap, hcp, hp2⟩ := Option.bind_eq_some_iff.1 hp1
      split at hp2 <;> first | (cases hp2; done) | skip
      rename_i hc
      obtain ⟨h2, hn, he⟩ := Option.map_eq_some_iff.1 hp2
      cases he
      obtain ⟨k2, f2, S2⟩ := S.new hn (hs _ (by simp [Prim.sites]))
      exact ⟨k2, by rw [hl, Option.bind_some, hcp, Option.bind_some, if_pos hc, f2]; rfl, S2⟩
    · split at hp <;> first | (cases hp; done) | skip
      obtain ⟨⟨k, new⟩, hsrc, hp1⟩ := Option.bind_eq_some_iff.1 hp
      obtain ⟨⟨new', h2⟩, hfz, hp2⟩ := Option.bind_eq_some_iff.1 hp1
      obtain ⟨k2, f2, S2⟩ := S.mayFreeze hfz
      obtain ⟨k3, f3, S3⟩ := S2.append (hs _ (by simp [Prim.sites])) hp2
      refine ⟨k3, ?_, S3⟩
      rw [S.source hsrc, Option.bind_some]
      simp only at f2 ⊢
      rw [f2, Option.bind_some]
      exact f3
    · split at hp <;> first | (cases hp; done) | skip
      obtain ⟨k, hk, hp1⟩ := Option.bind_eq_some_iff.1 hp
      split at hp1 <;> first | (cases hp1; done) | skip
      rename_i hc
      obtain ⟨k3, f3, S3⟩ := S.append (hs _ (by simp [Prim.sites])) hp1
      exact ⟨k3, by rw [hk, Option.bind_some, if_pos hc]; exact f3, S3⟩
    · split at hp <;> first | (cases hp; done) | skip
      obtain ⟨m, hm, hp1⟩ := Option.bind_eq_some_iff.1 hp
      obtain ⟨⟨k, src⟩, hsrc, hp2⟩ := Option.bind_eq_some_iff.1 hp1
      simp only at hp2
      split at hp2 <;> first | (cases hp2; done) | skip
      rename_i hc
      obtain ⟨h2, hcp, he⟩ := Option.map_eq_some_iff.1 hp2
      cases he
      obtain ⟨k3, f3, S3⟩ := S.copy hcp
      refine ⟨k3, ?_, S3⟩
      rw [hm, Option.bind_some, S.source hsrc, Option.bind_some]
      simp only
      rw [if_pos hc, f3]; rfl
    · obtain ⟨cs, hf, hp2⟩ := Option.bind_eq_some_iff.1 hp
      split at hp2 <;> first | (cases hp2; done) | skip
      rename_i hcl
      obtain ⟨h2, hn, he⟩ := Option.map_eq_some_iff.1 hp2
      cases he
      obtain ⟨k2, f2, S2⟩ := S.new hn (hs _ (by simp [Prim.sites]))
      exact ⟨k2, by rw [hf, Option.bind_some, if_pos hcl, f2]; rfl, S2⟩
    · obtain ⟨⟨as', h2⟩, hfz, hp1⟩ := Option.bind_eq_some_iff.1 hp
      obtain ⟨cs, hf, he⟩ := Option.map_eq_some_iff.1 hp1
      cases he
      obtain ⟨k2, f2, S2⟩ := S.mayFreeze (frz := true) hfz
      have f2' : h'.freezes _ = some (as', k2) := f2
      refine ⟨k2, ?_, S2⟩
      rw [f2', Option.bind_some]
      simp only
      rw [hf, Option.map_some]
    · split at hp <;> first | (cases hp; done) | skip
      split at hp <;> first | (cases hp; done) | skip
      rename_i B B' hB hB'
      split at hp <;> cases hp
      rename_i hc
      refine ⟨h', ?_, S⟩
      simp only [S.get hB, S.get hB']
      rw [if_pos hc]
    · split at hp <;> first | (cases hp; done) | skip
      split at hp <;> first | (cases hp; done) | skip
      rename_i B hB
      split at hp <;> cases hp
      rename_i hc
      refine ⟨h', ?_, S⟩
      simp only [S.get hB]
      rw [if_pos hc]
variable {prog : String → Option IFn}
def NoF : Nat → Bool := fun _ => false
def NoY : Nat → Option Blk := fun _ => none
def GSub (E : Nat → Bool) (X : Nat → Option Blk) (G G' : List (Option Blk)) : Prop := G' = fillL E X G ∧ ∀ p, E p = true → G[p]? = some none
abbrev HSub (E : Nat → Bool) (X : Nat → Option Blk) (h h' : Hp) : Prop := Sub E NoF X NoY h h'
theorem fillL_noF {L : List (Option Blk)} : fillL NoF NoY L = L := fillL_no fun _ _ => rfl
theorem HSub.L (S : HSub E X h h') : h'.L = h.L := by rw [S.eL, fillL_noF]
theorem HSub.of {h h' : Hp} (hG : GSub E X h.G h'.G) (hL : h'.L = h.L) : HSub E X h h' := ⟨hG.1, by rw [hL, fillL_noF], hG.2, fun k hk => by cases hk⟩
theorem HSub.g {h h' : Hp} (S : HSub E X h h') : GSub E X h.G h'.G := ⟨S.eG, S.oG⟩
theorem GSub.lt {G G'} (S : GSub E X G G') {p} (hp : E p = true) : p < G.length := lt_of_get (S.2 p hp)
inductive TSub (E : Nat → Bool) (X : Nat → Option Blk) : Task → Task → Prop
  | call {f args G G'} (S : GSub E X G G') : TSub E X (.call f args G) (.call f args G')
  | code {c e h h'} (S : HSub E X h h') : TSub E X (.code c ⟨e, h⟩) (.code c ⟨e, h'⟩)
  | op {p xs h h'} (S : HSub E X h h') : TSub E X (.op p xs h) (.op p xs h')
  | ops {l e h h'} (S : HSub E X h h') : TSub E X (.ops l ⟨e, h⟩) (.ops l ⟨e, h'⟩)
  | draw {l e h h'} (S : HSub E X h h') : TSub E X (.draw l ⟨e, h⟩) (.draw l ⟨e, h'⟩)
inductive RSub (E : Nat → Bool) (X : Nat → Option Blk) : Res → Res → Prop
  | ret {r G G'} (S : GSub E X G G') : RSub E X (.ret r G) (.ret r G')
  | out {o e h h'} (S : HSub E X h h') : RSub E X (.out o ⟨e, h⟩) (.out o ⟨e, h'⟩)
  | val {a h h'} (S : HSub E X h h') : RSub E X (.val a h) (.val a h')
  | env {e h h'} (S : HSub E X h h') : RSub E X (.env ⟨e, h⟩) (.env ⟨e, h'⟩)
theorem HSub.load (S : HSub E X h h') {sz agg xs a} (hp : AM.prim h (.load sz agg) xs = some (a, h1)) : ∃ h1', AM.prim h' (.load sz agg) xs = some (a, h1') := by
  obtain ⟨h1', e, _⟩ := S.prim (by simp [Prim.sites]) hp
  exact ⟨h1', e⟩
theorem HSub.resVal (S : HSub E X h h') {e : List AV} {r a} (hr : resVal ⟨e, h⟩ r = some a) : resVal ⟨e, h'⟩ r = some a := by
  cases r with
  | tmp t => exact hr
  | cell t sz agg =>
    simp only [AM.resVal] at hr ⊢
    obtain ⟨⟨b, h2⟩, e1, e2⟩ := Option.map_eq_some_iff.1 hr
    cases e2
    obtain ⟨h3, e3⟩ := S.load e1
    rw [e3]; rfl
theorem HSub.resVals (S : HSub E X h h') {e : List AV} : ∀ {rs as}, resVals ⟨e, h⟩ rs = some as → resVals ⟨e, h'⟩ rs = some as
  | [], as, hr => hr
  | r :: rs, as, hr => by
    simp only [AM.resVals] at hr ⊢
    obtain ⟨a, e1, e2⟩ := Option.bind_eq_some_iff.1 hr
    obtain ⟨as', e3, e4⟩ := Option.map_eq_some_iff.1 e2
    rw [S.resVal e1, Option.bind_some, S.resVals e3, Option.map_some, e4]
theorem HSub.collect (S : HSub E X h h') : ∀ {n ls acc}, collect h' n ls acc = collect h n ls acc
  | 0, _, _ => rfl
  | n + 1, [], _ => rfl
  | n + 1, .o _ :: ls, acc => by simp only [AM.collect]; exact S.collect
  | n + 1, .l k :: ls, acc => by
    simp only [AM.collect, Hp.get, S.L]
    split <;> exact S.collect
theorem HSub.leave (S : HSub E X h h') {r r' G2} (hr : h.leave r = some (r', G2)) : ∃ G2', h'.leave r = some (r', G2') ∧ GSub E X G2 G2' := by
  unfold Hp.leave at hr ⊢
  simp only [S.collect, S.lenG, S.L] at hr ⊢
  split at hr <;> cases hr
  rename_i hc
  rw [if_pos hc]
  refine ⟨_, rfl, ?_, fun p hp => ?_⟩
  · rw [S.eG, fillL_app fun k hk => lt_of_get (S.oG k hk)]
  · rw [List.getElem?_append_left (lt_of_get (S.oG p hp))]; exact S.oG p hp
theorem HSub.into (S : HSub E X h h') : GSub E X h.into h'.into := by
  refine ⟨?_, fun p hp => ?_⟩
  · unfold Hp.into
    rw [S.lenG, S.L, S.eG, fillL_app fun k hk => lt_of_get (S.oG k hk)]
  · unfold Hp.into
    rw [List.getElem?_append_left (lt_of_get (S.oG p hp))]; exact S.oG p hp
theorem HSub.back0 (S : HSub E X h h') {sites G2 G2' r a} (SG : GSub E X G2 G2') (hb : h.back0 sites G2 r = some (a, h1)) : ∃ h1', h'.back0 sites G2' r = some (a, h1') ∧ HSub E X h1 h1' := by
  have hlt : ∀ k, E k = true → k < h.G.length := fun k hk => lt_of_get (S.oG k hk)
  unfold Hp.back0 at hb ⊢
  simp only [S.lenG, S.L] at hb ⊢
  split at hb <;> cases hb
  rename_i hc
  obtain ⟨c1, c2, c3, c4⟩ := hc
  have e4 : sites.all (fun k => free G2' (h.G.length + k)) = true := by
    rw [List.all_eq_true] at c4 ⊢
    intro k hk
    have := c4 k hk
    unfold free at this ⊢
    rw [SG.1, fillL_get]
    have : E (h.G.length + k) = false := by
      cases he : E (h.G.length + k) with
      | false => rfl
      | true => have := hlt _ he; omega
    rw [this]
    simp only [Bool.false_eq_true, if_false, Option.map_id']
    assumption
  rw [if_pos ⟨by rw [SG.1, fillL_len]; exact c1, c2, c3, e4⟩]
  have ed : G2'.drop h.G.length = G2.drop h.G.length := by rw [SG.1]; exact fillL_drop hlt
  have ed2 : G2'.drop (h.G.length + h.L.length) = G2.drop (h.G.length + h.L.length) := by rw [SG.1]; exact fillL_drop fun k hk => Nat.lt_of_lt_of_le (hlt k hk) (Nat.le_add_right _ _)
  rw [ed, ed2]
  refine ⟨_, rfl, HSub.of ⟨?_, fun p hp => ?_⟩ rfl⟩
  · simp only; rw [SG.1, fillL_take]
  · simp only; rw [List.getElem?_take, if_pos (hlt p hp)]; exact SG.2 p hp
theorem GSub.pad {G G'} (S : GSub E X G G') {n} : GSub E X (padTo n G) (padTo n G') := by
  unfold padTo
  rw [S.1, fillL_len]
  refine ⟨(fillL_app fun k hk => S.lt hk).symm, fun p hp => ?_⟩
  rw [List.getElem?_append_left (S.lt hp)]; exact S.2 p hp
theorem HSub.back (S : HSub E X h h') {sites G2 G2' r a} (SG : GSub E X G2 G2') (hb : h.back sites G2 r = some (a, h1)) : ∃ h1', h'.back sites G2' r = some (a, h1') ∧ HSub E X h1 h1' := by
  unfold Hp.back at hb ⊢
  rw [S.lenG, S.L]
  split at hb <;> first | (cases hb; done) | skip
  rename_i hc
  rw [if_pos (by rw [SG.1, fillL_len]; exact hc)]
  exact S.back0 SG.pad hb
theorem HSub.over (S : HSub E X h h') {u Z} : HSub E X (h.over u Z) (h'.over u Z) := by
  refine HSub.of S.g ?_
  simp only [Hp.over, S.L]
theorem HSub.clear (S : HSub E X h h') {e clr fre s1} (hc : clear ⟨e, h⟩ clr fre = some s1) : ∃ k, clear ⟨e, h'⟩ clr fre = some ⟨s1.env, k⟩ ∧ HSub E X s1.h k := by
  unfold AM.clear at hc ⊢
  simp only [S.L] at hc ⊢
  split at hc <;> cases hc
  rename_i hcc
  exact ⟨_, if_pos hcc, HSub.of (h := ⟨h.G, _⟩) (h' := ⟨h'.G, _⟩) S.g rfl⟩
theorem HSub.mv (S : HSub E X h h') {e mv s1} (hm : mvSt mv ⟨e, h⟩ = some s1) : ∃ k, mvSt mv ⟨e, h'⟩ = some ⟨s1.env, k⟩ ∧ HSub E X s1.h k := by
  unfold mvSt at hm ⊢
  simp only [S.L] at hm ⊢
  split at hm <;> cases hm
  rename_i hcc
  exact ⟨_, if_pos hcc, HSub.of (h := ⟨h.G, _⟩) (h' := ⟨h'.G, _⟩) S.g rfl⟩
theorem HSub.mvIf (S : HSub E X h h') {e g mv s1} (hm : mvIf g mv ⟨e, h⟩ = some s1) : ∃ k, mvIf g mv ⟨e, h'⟩ = some ⟨s1.env, k⟩ ∧ HSub E X s1.h k := by
  have hmv : ∀ {s1}, mvSt mv ⟨e, h⟩ = some s1 → ∃ k, mvSt mv ⟨e, h'⟩ = some ⟨s1.env, k⟩ ∧ HSub E X s1.h k := fun h => S.mv h
  have hst : ∀ {s1 : St}, some (⟨e, h⟩ : St) = some s1 → ∃ k, some (⟨e, h'⟩ : St) = some ⟨s1.env, k⟩ ∧ HSub E X s1.h k := fun h => by cases h; exact ⟨_, rfl, S⟩
  unfold AM.mvIf at hm ⊢
  simp only [S.L] at hm ⊢
  split at hm
  · split at hm
    · split at hm
      · rename_i hk; simp only [hk, if_true] at *; exact hmv hm
      · rename_i hk; simp only [hk, if_false] at *; exact hst hm
    · exact hst hm
  · exact hst hm
theorem HSub.seesAll (S : HSub E X h h') : ∀ {as cs}, h.seesAll as = some cs → h'.seesAll as = some cs
  | [], cs, hr => hr
  | a :: as, cs, hr => by
    simp only [Hp.seesAll] at hr ⊢
    obtain ⟨n, e0, hr⟩ := Option.bind_eq_some_iff.1 hr
    obtain ⟨c, e1, e2⟩ := Option.bind_eq_some_iff.1 hr
    obtain ⟨c', e3, e4⟩ := Option.map_eq_some_iff.1 e2
    rw [e0, Option.bind_some, S.sees e1, Option.bind_some, S.seesAll e3, Option.map_some, e4]
theorem GSub.xNew {G G'} (S : GSub E X G G') {f args r} (hr : AM.xNew f args G = some r) : ∃ G2', AM.xNew f args G' = some (r.1, G2') ∧ GSub E X r.2 G2' := by
  have S0 : HSub E X ⟨G, []⟩ ⟨G', []⟩ := HSub.of S rfl
  have hl : G'.length = G.length := S0.lenG
  unfold AM.xNew at hr ⊢
  obtain ⟨cs, e1, e2⟩ := Option.bind_eq_some_iff.1 hr
  obtain ⟨q, e3, e4⟩ := Option.bind_eq_some_iff.1 e2
  rw [S0.seesAll e1, Option.bind_some, e3, Option.bind_some]
  split at e4
  · rename_i h0
    cases e4
    rw [if_pos h0]
    exact ⟨_, rfl, S⟩
  · rename_i h0
    cases e4
    rw [if_neg h0, hl]
    refine ⟨_, rfl, ?_, fun p hp => ?_⟩
    · rw [S.1, fillL_app fun k hk => S.lt hk]
    · rw [List.getElem?_append_left (S.lt hp)]; exact S.2 p hp
theorem GSub.get {G G' : List (Option Blk)} (S : GSub E X G G') {p : Nat} {B : Blk} (h : (G[p]?).join = some B) : (G'[p]?).join = some B ∧ E p = false := by
  have hE : E p = false := by
    cases he : E p with
    | false => rfl
    | true => rw [S.2 p he] at h; cases h
  refine ⟨?_, hE⟩
  rw [S.1, fillL_get, hE]
  simpa using h
theorem GSub.app {G G'} (S : GSub E X G G') {Bs} : GSub E X (G ++ Bs) (G' ++ Bs) := by
  refine ⟨?_, fun p hp => ?_⟩
  · rw [S.1, fillL_app fun k hk => S.lt hk]
  · rw [List.getElem?_append_left (S.lt hp)]; exact S.2 p hp
theorem GSub.xIns {G G'} (S : GSub E X G G') {args r} (hr : AM.xIns args G = some r) : ∃ G2', AM.xIns args G' = some (r.1, G2') ∧ GSub E X r.2 G2' := by
  have S0 : HSub E X ⟨G, []⟩ ⟨G', []⟩ := HSub.of S rfl
  have hl : G'.length = G.length := S0.lenG
  unfold AM.xIns at hr ⊢
  split at hr <;> first | (cases hr; done) | skip
  split at hr <;> first | (cases hr; done) | skip
  rename_i V hV
  split at hr <;> first | (cases hr; done) | skip
  rename_i hc
  obtain ⟨g2, e2⟩ := S.get hV
  simp only [g2, hl]
  rw [if_pos hc]
  split at hr <;> first | (cases hr; done) | skip
  · split at hr <;> cases hr
    rename_i h0
    rw [if_pos h0]
    exact ⟨_, rfl, S.app⟩
  · split at hr <;> first | (cases hr; done) | skip
    rename_i B hB
    obtain ⟨g1, e1⟩ := S.get hB
    simp only [g1]
    split at hr
    · split at hr <;> cases hr
      rename_i h0
      rw [if_pos h0]
      exact ⟨_, rfl, S.app⟩
    · split at hr <;> cases hr
      rename_i h0
      rw [if_pos h0]
      refine ⟨_, rfl, ?_, fun p hp => ?_⟩
      · rw [S.1]; exact (fillL_set e1).symm
      · rw [List.getElem?_set, if_neg (by intro h; subst h; rw [e1] at hp; cases hp)]
        exact S.2 p hp
theorem GSub.xIdx {G G'} (S : GSub E X G G') {args r} (hr : AM.xIdx args G = some r) : ∃ G2', AM.xIdx args G' = some (r.1, G2') ∧ GSub E X r.2 G2' := by
  have S0 : HSub E X ⟨G, []⟩ ⟨G', []⟩ := HSub.of S rfl
  have hl : G'.length = G.length := S0.lenG
  unfold AM.xIdx at hr ⊢
  obtain ⟨cs, e1, e2⟩ := Option.bind_eq_some_iff.1 hr
  rw [S0.seesAll e1, Option.bind_some]
  clear hr
  split at e2 <;> first | (cases e2; done) | skip
  obtain ⟨is, e3, e4⟩ := Option.bind_eq_some_iff.1 e2
  obtain ⟨ss, e5, e6⟩ := Option.bind_eq_some_iff.1 e4
  simp only [e3, e5, Option.bind_some]
  split at e6 <;> cases e6
  rename_i hc
  rw [if_pos hc, hl]
  refine ⟨_, rfl, ?_, fun p hp => ?_⟩
  · rw [S.1, fillL_app fun k hk => S.lt hk]
  · rw [List.getElem?_append_left (S.lt hp)]; exact S.2 p hp
theorem GSub.xRun {G G'} (S : GSub E X G G') {f args r} (hr : AM.xRun f args G = some r) : ∃ G2', AM.xRun f args G' = some (r.1, G2') ∧ GSub E X r.2 G2' := by
  unfold AM.xRun at hr ⊢
  split at hr
  · rename_i h; rw [if_pos h]; exact S.xIns hr
  rename_i h; rw [if_neg h]
  split at hr
  · rename_i h2; rw [if_pos h2]; exact S.xIdx hr
  rename_i h2; rw [if_neg h2]
  exact S.xNew hr
theorem ev_sub {t : Task} {r : Res} (he : Ev prog t r) : ∀ {t'}, TSub E X t t' → ∃ r', Ev prog t' r' ∧ RSub E X r r' := by
  induction he with
  | @call f args G F o s r hf hb ho hr ih =>
    intro t' ht; cases ht; rename_i S
    have S0 : HSub E X (enter F args G).h (⟨_, List.replicate F.nsites none⟩ : Hp) := HSub.of S rfl
    obtain ⟨r', e', R⟩ := ih (.code S0)
    cases R with
    | @out _ e h h' SO =>
      unfold finish at hr
      obtain ⟨vs, e1, e2⟩ := Option.bind_eq_some_iff.1 hr
      obtain ⟨G2', e3, S3⟩ := SO.leave (r' := r.1) (G2 := r.2) e2
      refine ⟨_, .call (r := (r.1, G2')) hf e' ho ?_, .ret S3⟩
      unfold finish
      rw [SO.resVals e1, Option.bind_some]
      exact e3
  | @orc f args G r hf hx =>
    intro t' ht; cases ht; rename_i S
    obtain ⟨G2', e, S2⟩ := S.xRun hx
    exact ⟨_, .orc (r := (r.1, G2')) hf e, .ret S2⟩
  | @skip s => intro t' ht; cases ht; rename_i S; exact ⟨_, .skip, .out S⟩
  | @ops l s s' h ih =>
    intro t' ht; cases ht; rename_i S
    obtain ⟨r', e', R⟩ := ih (.ops S)
    cases R with
    | env S2 => exact ⟨_, .ops e', .out S2⟩
  | @draw l s s' h ih =>
    intro t' ht; cases ht; rename_i S
    obtain ⟨r', e', R⟩ := ih (.draw S)
    cases R with
    | env S2 => exact ⟨_, .draw e', .out S2⟩
  | @seq a b s s' r h h' ih ih' =>
    intro t' ht; cases ht; rename_i S
    obtain ⟨r1, e1, R⟩ := ih (.code S)
    cases R with
    | out S2 =>
      obtain ⟨r2, e2, R2⟩ := ih' (.code S2)
      exact ⟨r2, .seq e1 e2, R2⟩
  | @seqOut a b s o s' h ho ih =>
    intro t' ht; cases ht; rename_i S
    obtain ⟨r1, e1, R⟩ := ih (.code S)
    cases R with
    | out S2 => exact ⟨_, .seqOut e1 ho, .out S2⟩
  | @cond c a b s t r hc h ih =>
    intro t' ht; cases ht; rename_i S
    obtain ⟨r1, e1, R⟩ := ih (.code S)
    exact ⟨r1, .cond hc e1, R⟩
  | @block id a s o s' h ih =>
    intro t' ht; cases ht; rename_i S
    obtain ⟨r1, e1, R⟩ := ih (.code S)
    cases R with
    | out S2 => exact ⟨_, .block e1, .out S2⟩
  | @loop clr fre a s s1 s2 r hc h h' ih ih' =>
    intro t' ht; cases ht; rename_i S
    obtain ⟨s1', hc', S1⟩ := S.clear hc
    obtain ⟨r1, e1, R⟩ := ih (.code (e := s1.env) (h := s1.h) S1)
    cases R with
    | out S2 =>
      obtain ⟨r2, e2, R2⟩ := ih' (.code S2)
      exact ⟨r2, .loop hc' e1 e2, R2⟩
  | @loopOut clr fre a s s1 o s2 hc h ho ih =>
    intro t' ht; cases ht; rename_i S
    obtain ⟨s1', hc', S1⟩ := S.clear hc
    obtain ⟨r1, e1, R⟩ := ih (.code (e := s1.env) (h := s1.h) S1)
    cases R with
    | out S2 => exact ⟨_, .loopOut hc' e1 ho, .out S2⟩
  | @post mv a s s1 s2 h hm ih =>
    intro t' ht; cases ht; rename_i S
    obtain ⟨r1, e1, R⟩ := ih (.code S)
    cases R with
    | out S1 =>
      obtain ⟨k, hm', S2⟩ := S1.mv hm
      exact ⟨_, .post e1 hm', .out (e := s2.env) (h := s2.h) S2⟩
  | @postOut mv a s o s1 h ho ih =>
    intro t' ht; cases ht; rename_i S
    obtain ⟨r1, e1, R⟩ := ih (.code S)
    cases R with
    | out S1 => exact ⟨_, .postOut e1 ho, .out S1⟩
  | @postIf g mv a s s1 s2 h hm ih =>
    intro t' ht; cases ht; rename_i S
    obtain ⟨r1, e1, R⟩ := ih (.code S)
    cases R with
    | out S1 =>
      obtain ⟨k, hm', S2⟩ := S1.mvIf hm
      exact ⟨_, .postIf e1 hm', .out (e := s2.env) (h := s2.h) S2⟩
  | @postIfOut g mv a s o s1 h ho ih =>
    intro t' ht; cases ht; rename_i S
    obtain ⟨r1, e1, R⟩ := ih (.code S)
    cases R with
    | out S1 => exact ⟨_, .postIfOut e1 ho, .out S1⟩
  | @exit id s => intro t' ht; cases ht; rename_i S; exact ⟨_, .exit, .out S⟩
  | @ret s => intro t' ht; cases ht; rename_i S; exact ⟨_, .ret, .out S⟩
  | @prim p xs h a h' hp =>
    intro t' ht; cases ht; rename_i S
    obtain ⟨h1', e1, S1⟩ := S.prim (fun _ _ => rfl) hp
    exact ⟨_, .prim e1, .val S1⟩
  | @opCall f sites xs h r G2 a h' hi hc hb ih =>
    intro t' ht; cases ht; rename_i S
    obtain ⟨r1, e1, R⟩ := ih (.call S.into)
    cases R with
    | ret SG =>
      obtain ⟨h1', e2, S2⟩ := S.back SG hb
      exact ⟨_, .opCall (by rw [S.L]; exact hi) (by rw [S.lenG]; exact e1) e2, .val S2⟩
  | @opCallV f first caps sites xs h r G2 a h' hi hc hb ih =>
    intro t' ht; cases ht; rename_i S
    obtain ⟨r1, e1, R⟩ := ih (.call S.into)
    cases R with
    | ret SG =>
      obtain ⟨h1', e2, S2⟩ := S.back SG hb
      exact ⟨_, .opCallV (by rw [S.L]; exact hi) (by rw [S.lenG]; exact e1) e2, .val S2⟩
  | @opIn f sites xs h F o s' vs hf hc hb ho hv hl ih =>
    intro t' ht; cases ht; rename_i S
    obtain ⟨r1, e1, R⟩ := ih (.code S)
    cases R with
    | out S2 =>
      exact ⟨_, .opIn hf hc e1 ho (S2.resVals hv) (by rw [S2.L, S.L]; exact hl), .val S2⟩
  | @opsNil s => intro t' ht; cases ht; rename_i S; exact ⟨_, .opsNil, .env S⟩
  | @opsSkip i l s s' hg h ih =>
    intro t' ht; cases ht; rename_i env hh hh' S
    obtain ⟨r1, e1, R⟩ := ih (t' := .ops l (St.put ⟨env, hh'⟩ i.dst (.v undef))) (by cases hd : i.dst <;> exact .ops S)
    cases R with | env S3 => exact ⟨_, .opsSkip hg e1, .env S3⟩
  | @opsCons i l s a h' s' hg ho h iho ih =>
    intro t' ht; cases ht; rename_i env hh hh' S
    obtain ⟨r1, e1, R⟩ := iho (.op S)
    cases R with
    | @val _ _ k S2 =>
      obtain ⟨r2, e2, R2⟩ := ih (t' := .ops l (St.put ⟨env, k⟩ i.dst a)) (by cases hd : i.dst <;> exact .ops S2)
      cases R2 with | env S3 => exact ⟨_, .opsCons hg e1 e2, .env S3⟩
  | @drawNil s => intro t' ht; cases ht; rename_i S; exact ⟨_, .drawNil, .env S⟩
  | @drawSkip i l s s' hg h ih =>
    intro t' ht; cases ht; rename_i env hh hh' S
    obtain ⟨r1, e1, R⟩ := ih (t' := .draw l (St.put ⟨env, hh'⟩ i.dst (.v undef))) (by cases hd : i.dst <;> exact .draw S)
    cases R with | env S3 => exact ⟨_, .drawSkip hg e1, .env S3⟩
  | @drawCons i l s a h' s' hg ho hd hq hu h iho ih =>
    intro t' ht; cases ht; rename_i env hh hh' S
    have key : ∀ Z, okX hh.G.length Z → ∃ k, Ev prog (.op i.p (i.xs.map (evalO env)) (hh'.over i.u Z)) (.val a k) ∧ HSub E X (h'.over i.u Z) k := fun Z hZ => by
      obtain ⟨r1, e1, R⟩ := iho Z hZ (.op S.over)
      cases R with
      | val S2 => exact ⟨_, e1, S2⟩
    have S1 : HSub E X h' ⟨fillL E X h'.G, h'.L⟩ := by
      obtain ⟨k, _, S2⟩ := key _ okX_none
      exact HSub.of ⟨rfl, S2.oG⟩ rfl
    obtain ⟨r2, e2, R2⟩ := ih (t' := .draw l (St.put ⟨env, ⟨fillL E X h'.G, h'.L⟩⟩ i.dst a)) (by cases hd : i.dst <;> exact .draw S1)
    cases R2
    rename_i S3
    refine ⟨_, .drawCons (a := a) (h' := ⟨fillL E X h'.G, h'.L⟩) hg (fun Z hZ => ?_) ?_ ?_ ?_ e2, .env S3⟩
    · rw [S.lenG] at hZ
      obtain ⟨k, e1, S2⟩ := key Z hZ
      have : k = (⟨fillL E X h'.G, h'.L⟩ : Hp).over i.u Z := by
        have e1 := S2.eG
        have e2 := S2.L
        obtain ⟨kG, kL⟩ := k
        simp only [Hp.over] at e1 e2 ⊢
        rw [e1, e2]
      rw [← this]; exact e1
    · simp only [S.lenG, S.L]; exact hd
    · simp only [S.lenG]
      rcases hq with hq | ⟨hq, hq2⟩
      · exact .inl hq
      · refine .inr ⟨?_, hq2⟩
        unfold Quiet at hq ⊢
        simp only [Hp.over, Hp.mk.injEq]
        have q1 : h'.G = hh.G := by rw [hq]; rfl
        have q2 : h'.L = AM.over hh.L i.turns fun k => (h'.L[k]?).join := congrArg Hp.L hq
        exact ⟨by rw [S.eG, q1], by rw [S.L]; exact q2⟩
    · intro k hk
      rw [S.L]; exact hu k hk
theorem map_ren_up {g s k : Nat} {sites : List Nat} {B : Option Blk} (hB : ∀ b, B = some b → b.labs.all (refLt g k) = true) (hk : k < s) :
    (B.map (Blk.ren (up g))).map (Blk.ren (down g s sites)) = B := by
  cases B with
  | none => rfl
  | some b =>
    simp only [Option.map_some]
    rw [blkren_back (all_imp (hB b rfl) fun ℓ hl => ?_)]
    cases ℓ with
    | l j => simp only [refLt, refOK, decide_eq_true_eq] at hl ⊢; omega
    | o p => exact hl
theorem putAll_no : ∀ {sites : List Nat} {L Bs : List (Option Blk)} {k : Nat}, k ∉ sites → (putAll L sites Bs)[k]? = L[k]?
  | [], L, [], k, _ => rfl
  | [], L, _ :: _, k, _ => rfl
  | s :: ss, L, [], k, _ => rfl
  | s :: ss, L, B :: Bs, k, hk => by
    simp only [List.mem_cons, not_or] at hk
    simp only [putAll]
    rw [putAll_no hk.2, List.getElem?_set, if_neg (fun h => hk.1 h.symm)]
theorem putAll_lenA : ∀ {sites : List Nat} {L Bs : List (Option Blk)}, (putAll L sites Bs).length = L.length
  | [], L, [] => rfl
  | [], L, _ :: _ => rfl
  | s :: ss, L, [] => rfl
  | s :: ss, L, B :: Bs => by simp only [putAll]; rw [putAll_lenA, List.length_set]
theorem putAll_same : ∀ {sites : List Nat} {L L' Bs : List (Option Blk)} {k : Nat}, L.length = L'.length → (k ∉ sites → L[k]? = L'[k]?) → (sites.length ≤ Bs.length) → (putAll L sites Bs)[k]? = (putAll L' sites Bs)[k]?
  | [], L, L', [], k, hl, h, _ => h (by simp)
  | [], L, L', _ :: _, k, hl, h, _ => h (by simp)
  | s :: ss, L, L', [], k, hl, h, hs => by simp at hs
  | s :: ss, L, L', B :: Bs, k, hl, h, hs => by
    simp only [putAll]
    refine putAll_same (by simp [hl]) (fun hk => ?_) (by simpa using hs)
    rw [List.getElem?_set, List.getElem?_set, hl]
    split
    · rfl
    · rename_i hne
      exact h (by simp only [List.mem_cons, not_or]; exact ⟨fun e => hne e.symm, hk⟩)
theorem into_mk (G L : List (Option Blk)) (p : Nat) : (⟨G, L⟩ : Hp).into[p]? = if p < G.length then G[p]? else (L[p - G.length]?).map (Option.map (Blk.ren (up G.length))) := into_o ⟨G, L⟩ p
theorem back0_mk (G L : List (Option Blk)) (sites : List Nat) (G2 : List (Option Blk)) (r : AV) : (⟨G, L⟩ : Hp).back0 sites G2 r =
    if G2.length = G.length + L.length + sites.length ∧ sites.Nodup ∧ sites.all (free L) ∧ sites.all (fun k => free G2 (G.length + k)) then
    some (r.ren (down G.length L.length sites), { G := G2.take G.length, L := putAll (((G2.drop G.length).take L.length).map (Option.map (Blk.ren (down G.length L.length sites)))) sites ((G2.drop (G.length + L.length)).map (Option.map (Blk.ren (down G.length L.length sites)))) })
  else none := rfl
theorem back_mk (G L : List (Option Blk)) (sites : List Nat) (G2 : List (Option Blk)) (r : AV) : (⟨G, L⟩ : Hp).back sites G2 r =
    if G.length + L.length ≤ G2.length then (⟨G, L⟩ : Hp).back0 sites (padTo (G.length + L.length + sites.length) G2) r else none := rfl
theorem call_over {f : String} {args : List AV} {u sites : List Nat} {r a : AV} {G2 : List (Option Blk)} {Z : Nat → Option Blk} (hu : ∀ k ∈ sites, k ∉ u) (hZ : okX h.G.length Z)
    (hc : Ev prog (.call f args (h.over u fun _ => none).into) (.ret r G2)) (hb : (h.over u fun _ => none).back sites G2 r = some (a, h1)) :
    ∃ G2', Ev prog (.call f args (h.over u Z).into) (.ret r G2') ∧ (h.over u Z).back sites G2' r = some (a, h1.over u Z) := by
  obtain ⟨G, L⟩ := h
  dsimp only at hZ
  have g0 : ∀ k : Nat, (AM.over L u fun _ => none)[k]? = if k ∈ u ∧ k < L.length then some none else L[k]? := fun k => by simp only [over_get]
  have gZ : ∀ k : Nat, (AM.over L u Z)[k]? = if k ∈ u ∧ k < L.length then some (Z k) else L[k]? := fun k => by simp only [over_get]
  have lZ : (AM.over L u Z).length = L.length := over_length _ _ _
  have l0 : (AM.over L u fun _ => none).length = L.length := over_length _ _ _
  change Ev prog (.call f args (⟨G, AM.over L u fun _ => none⟩ : Hp).into) _ at hc
  change (⟨G, AM.over L u fun _ => none⟩ : Hp).back sites G2 r = _ at hb
  show ∃ G2', Ev prog (.call f args (⟨G, AM.over L u Z⟩ : Hp).into) (.ret r G2') ∧ (⟨G, AM.over L u Z⟩ : Hp).back sites G2' r = _
  generalize (AM.over L u fun _ => none) = L0 at *
  generalize AM.over L u Z = LZ at *
  have hE : ∀ {p : Nat}, decide (G.length ≤ p ∧ p - G.length ∈ u ∧ p - G.length < L.length) = true → p < G.length + L.length := fun hp => by
    simp only [decide_eq_true_eq] at hp; omega
  have S : GSub (fun p => decide (G.length ≤ p ∧ p - G.length ∈ u ∧ p - G.length < L.length)) (fun p => (Z (p - G.length)).map (Blk.ren (up G.length))) (⟨G, L0⟩ : Hp).into (⟨G, LZ⟩ : Hp).into := by
    refine ⟨?_, fun p hp => ?_⟩
    · apply List.ext_getElem?
      intro p
      rw [fillL_get, into_mk, into_mk]
      by_cases hp : p < G.length
      · rw [if_pos hp, if_pos hp]
        have : ¬ (G.length ≤ p) := by omega
        simp only [this, false_and, decide_false, Bool.false_eq_true, if_false, Option.map_id']
      · rw [if_neg hp, if_neg hp, g0, gZ]
        by_cases hk : p - G.length ∈ u ∧ p - G.length < L.length
        · have : G.length ≤ p := by omega
          simp [hk, this]
        · rw [if_neg hk, if_neg hk]
          simp [hk]
          rfl
    · simp only [decide_eq_true_eq] at hp
      rw [into_mk, if_neg (by omega), g0, if_pos hp.2]; rfl
  obtain ⟨r', e1, R⟩ := ev_sub hc (.call S)
  cases R with
  | @ret _ _ G2' SG =>
  refine ⟨G2', e1, ?_⟩
  rw [back_mk, l0] at hb
  rw [back_mk, lZ]
  have hl2 : G2'.length = G2.length := by rw [SG.1, fillL_len]
  split at hb <;> first | (cases hb; done) | skip
  rename_i hle
  rw [if_pos (by rw [hl2]; exact hle)]
  replace SG := SG.pad (n := G.length + L.length + sites.length)
  generalize padTo (G.length + L.length + sites.length) G2 = H2 at *
  generalize padTo (G.length + L.length + sites.length) G2' = H2' at *
  rw [back0_mk, l0] at hb
  rw [back0_mk, lZ]
  split at hb <;> cases hb
  rename_i hcc
  obtain ⟨c1, c2, c3, c4⟩ := hcc
  have hno : ∀ {k : Nat}, k ∉ u → H2'[G.length + k]? = H2[G.length + k]? := fun {k} hk => by
    rw [SG.1, fillL_get]
    simp [hk]
  have d3 : sites.all (free LZ) = true := by
    rw [List.all_eq_true] at c3 ⊢
    intro k hk
    have := c3 k hk
    have hku := hu k hk
    unfold free at this ⊢
    rw [g0, if_neg (fun h => hku h.1)] at this
    rw [gZ, if_neg (fun h => hku h.1)]
    exact this
  have d4 : sites.all (fun k => free H2' (G.length + k)) = true := by
    rw [List.all_eq_true] at c4 ⊢
    intro k hk
    have := c4 k hk
    unfold free at this ⊢
    rw [hno (hu k hk)]
    exact this
  rw [if_pos ⟨by rw [SG.1, fillL_len]; exact c1, c2, d3, d4⟩]
  have et : H2'.take G.length = H2.take G.length := by
    rw [SG.1, fillL_take]
    refine fillL_no fun k hk => ?_
    rw [List.length_take] at hk
    have : ¬ (G.length ≤ k) := by omega
    simp [this]
  have ed : H2'.drop (G.length + L.length) = H2.drop (G.length + L.length) := by rw [SG.1]; exact fillL_drop fun k hk => hE hk
  rw [et, ed]
  congr 2
  refine Hp.over_ext rfl fun k => ?_
  have hlen : ∀ (H : List (Option Blk)), H.length = G.length + L.length + sites.length → ((H.drop G.length).take L.length).length = L.length := fun H hH => by
    rw [List.length_take, List.length_drop]; omega
  simp only [Hp.over, over_get, putAll_lenA, List.length_map, hlen _ c1]
  have hat : ∀ (H : List (Option Blk)) (k : Nat), k < L.length → ((H.drop G.length).take L.length)[k]? = H[G.length + k]? := fun H k hk => by
    rw [List.getElem?_take, if_pos hk, List.getElem?_drop]
  by_cases hk : k ∈ u ∧ k < L.length
  · rw [if_pos hk, putAll_no (fun hs => hu k hs hk.1), List.getElem?_map, hat _ _ hk.2, SG.1, fillL_get]
    have hlt : G.length + k < H2.length := by rw [c1]; have := hk.2; omega
    rw [List.getElem?_eq_getElem hlt]
    simp only [Option.map_some, Nat.le_add_right, Nat.add_sub_cancel_left, hk, and_self, decide_true, if_true]
    rw [map_ren_up (fun b hb => hZ k b hb) hk.2]
  · rw [if_neg hk]
    refine putAll_same ?_ (fun hs => ?_) ?_
    · rw [List.length_map, List.length_map, hlen _ c1, hlen _ (by rw [SG.1, fillL_len]; exact c1)]
    · rw [List.getElem?_map, List.getElem?_map]
      by_cases hkl : k < L.length
      · rw [hat _ _ hkl, hat _ _ hkl, hno (fun hku => hk ⟨hku, hkl⟩)]
      · rw [List.getElem?_eq_none (by rw [hlen _ (by rw [SG.1, fillL_len]; exact c1)]; omega), List.getElem?_eq_none (by rw [hlen _ c1]; omega)]
    · rw [List.length_map, List.length_drop]; omega
theorem ev_op_over {p : Prim} {xs : List AV} {u : List Nat} {a : AV} {Z : Nat → Option Blk} (hu : ∀ k ∈ p.sites, k ∉ u) (hi : (p.inl && !u.isEmpty) = false) (hZ : okX h.G.length Z) (he : Ev prog (.op p xs (h.over u fun _ => none)) (.val a h1)) :
    Ev prog (.op p xs (h.over u Z)) (.val a (h1.over u Z)) := by
  have g0 : ∀ k, (h.over u fun _ => none).L[k]? = if k ∈ u ∧ k < h.L.length then some none else h.L[k]? := fun k => by simp only [Hp.over, over_get]
  have gZ : ∀ k, (h.over u Z).L[k]? = if k ∈ u ∧ k < h.L.length then some (Z k) else h.L[k]? := fun k => by simp only [Hp.over, over_get]
  cases he with
  | prim hp =>
    have S : Sub (fun _ => false) (fun k => decide (k ∈ u ∧ k < h.L.length)) (fun _ => none) Z (h.over u fun _ => none) (h.over u Z) := by
      refine ⟨?_, ?_, fun p hp => (by cases hp), fun k hk => ?_⟩
      · rw [fillL_no fun _ _ => rfl]; rfl
      · apply List.ext_getElem?
        intro k
        rw [fillL_get, g0, gZ]
        by_cases hk : k ∈ u ∧ k < h.L.length
        · simp [hk]
        · simp [hk]
      · rw [g0, if_pos (by simpa using hk)]
    obtain ⟨h1', e1, S1⟩ := S.prim (fun s hs => by simp [hu s hs]) hp
    have : h1' = h1.over u Z := by
      refine Hp.over_ext ?_ fun k => ?_
      · rw [S1.eG, fillL_no fun _ _ => rfl]; rfl
      · rw [S1.eL, fillL_get]
        have hl : h1.L.length = h.L.length := by
          rw [prim_len hp]; exact over_length _ _ _
        simp only [Hp.over, over_get, hl]
        by_cases hk : k ∈ u ∧ k < h.L.length
        · rw [if_pos hk, List.getElem?_eq_getElem (by rw [hl]; exact hk.2)]; simp [hk]
        · rw [if_neg hk]; simp [hk]
    rw [this] at e1
    exact .prim e1
  | @opCall f sites _ _ r G2 _ _ hi hc hb =>
    obtain ⟨G2', e1, e2⟩ := call_over hu hZ hc hb
    have hi' := okBlks_over (u := u) hi hZ
    rw [over_over h u u _ _ fun k hk => hk] at hi'
    exact .opCall hi' e1 e2
  | @opCallV f first caps sites xs _ r G2 _ _ hi hc hb =>
    obtain ⟨G2', e1, e2⟩ := call_over hu hZ hc hb
    have hi' := okBlks_over (u := u) hi hZ
    rw [over_over h u u _ _ fun k hk => hk] at hi'
    exact .opCallV hi' e1 e2
  | @opIn f sites _ _ F o s' vs hf hc hb ho hv hl =>
    have hu0 : u = [] := by
      cases u with
      | nil => rfl
      | cons k u => simp [Prim.inl] at hi
    subst hu0
    rw [over_nil] at hb hl ⊢
    rw [over_nil]
    exact .opIn hf hc hb ho hv hl
end Go.AM
namespace Go.AM
def eqV : Value → Value → Bool
  | .int k a, .int k' b => decide (k = k') && decide (a = b)
  | .bool a, .bool b => a == b
  | .string a, .string b => decide (a.data.toList = b.data.toList)
  | .slice none 0 0, .slice none 0 0 => true
  | .pointer none, .pointer none => true
  | .nilFunc, .nilFunc => true
  | .tuple a, .tuple b => a.size == 0 && b.size == 0
  | _, _ => false
def eqAV : AV → AV → Bool
  | .v x, .v y => eqV x y
  | .ptr a b c, .ptr d e f => decide (a = d) && (b == e && c == f)
  | .own a b c d e f, .own g h i j k l => decide (a = g) && (b == h && (c == i && (d == j && (e == k && decide (f = l)))))
  | .ro a b c d, .ro e f g h => a == e && (b == f && (c == g && eqs d h))
  | .rop a, .rop b => eqs a b
  | .fn a b c, .fn d e f => decide (a = d) && (eqs b e && eqs c f)
  | .agg a, .agg b => eqs a b
  | .tup a, .tup b => eqs a b
  | .dead, .dead => true
  | _, _ => false
where eqs : List AV → List AV → Bool
  | [], [] => true
  | a :: as, b :: bs => eqAV a b && eqs as bs
  | _, _ => false
def eqB : Option Blk → Option Blk → Bool
  | none, none => true
  | some A, some B => eqAV.eqs A.cells B.cells && (A.opn == B.opn && (A.wr == B.wr && (A.data == B.data && (A.virt == B.virt && A.plain == B.plain))))
  | _, _ => false
def eqBs : List (Option Blk) → List (Option Blk) → Bool
  | [], [] => true
  | A :: As, B :: Bs => eqB A B && eqBs As Bs
  | _, _ => false
def quietB (w : List Nat) (h h' : Hp) : Bool := eqBs h'.G h.G && eqBs h'.L (AM.over h.L w fun k => (h'.L[k]?).join)
def run (prog : String → Option IFn) : Nat → Task → Option Res
  | 0, _ => none
  | n + 1, .call f args G => match prog f with
    | none => none
    | some F => if isX F then (match F with | ⟨0, 0, [.tmp 77777], .exit 0⟩ => (xRun f args G).map fun r => .ret r.1 r.2 | _ => none) else match run prog n (.code F.body (enter F args G)) with
      | some (.out o s) => match o with
        | .normal => (finish F s).map fun r => .ret r.1 r.2
        | .ret => (finish F s).map fun r => .ret r.1 r.2
        | .exit _ => none
      | _ => none
  | n + 1, .code c s => match c with
    | .skip => some (.out .normal s)
    | .ret => some (.out .ret s)
    | .exit id => some (.out (.exit id) s)
    | .ops l => match run prog n (.ops l s) with
      | some (.env s') => some (.out .normal s')
      | _ => none
    | .draw l => match run prog n (.draw l s) with
      | some (.env s') => some (.out .normal s')
      | _ => none
    | .seq a b => match run prog n (.code a s) with
      | some (.out .normal s') => run prog n (.code b s')
      | some (.out o s') => some (.out o s')
      | _ => none
    | .cond c a b => match evalO s.env c with
      | .v (.bool true) => run prog n (.code a s)
      | .v (.bool false) => run prog n (.code b s)
      | _ => none
    | .block id a => match run prog n (.code a s) with
      | some (.out o s') => some (.out (if o = .exit id then .normal else o) s')
      | _ => none
    | .loop clr fre a => match clear s clr fre with
      | some s1 => match run prog n (.code a s1) with
        | some (.out .normal s2) => run prog n (.code (.loop clr fre a) s2)
        | some (.out o s2) => some (.out o s2)
        | _ => none
      | none => none
    | .post mv a => match run prog n (.code a s) with
      | some (.out .normal s1) => (mvSt mv s1).map fun s2 => .out .normal s2
      | some (.out o s1) => some (.out o s1)
      | _ => none
    | .postIf g mv a => match run prog n (.code a s) with
      | some (.out .normal s1) => (mvIf g mv s1).map fun s2 => .out .normal s2
      | some (.out o s1) => some (.out o s1)
      | _ => none
  | n + 1, .op p xs h => match p with
    | .call f sites => if okBlks 0 h.L then match run prog n (.call f (xs.map (AV.ren (up h.G.length))) h.into) with
        | some (.ret r G2) => (h.back sites G2 r).map fun q => .val q.1 q.2
        | _ => none
      else none
    | .callV sites => match xs with
      | .fn f first caps :: ys => if okBlks 0 h.L then match run prog n (.call f ((first ++ ys ++ caps).map (AV.ren (up h.G.length))) h.into) with
          | some (.ret r G2) => (h.back sites G2 r).map fun q => .val q.1 q.2
          | _ => none
        else none
      | _ => none
    | .callIn f sites => match prog f with
      | none => none
      | some F => if F.body.calm = true then match run prog n (.code F.body ⟨xs ++ List.replicate (F.ntmps - xs.length) .dead, h⟩) with
          | some (.out o s) => if (o = .normal ∨ o = .ret) ∧ s.h.L.length = h.L.length then (resVals s F.res).map fun vs => .val (packA vs) s.h else none
          | _ => none
        else none
    | p => (prim h p xs).map fun q => .val q.1 q.2
  | n + 1, .ops l s => match l with
    | [] => some (.env s)
    | i :: l => match s.guard i.guard with
      | some false => run prog n (.ops l (s.put i.dst (.v undef)))
      | some true => match run prog n (.op i.p (i.xs.map (evalO s.env)) s.h) with
        | some (.val a h') => run prog n (.ops l (({ s with h := h' } : St).put i.dst a))
        | _ => none
      | none => none
  | n + 1, .draw l s => match l with
    | [] => some (.env s)
    | i :: l => match s.guard i.guard with
      | some false => run prog n (.draw l (s.put i.dst (.v undef)))
      | some true => match run prog n (.op i.p (i.xs.map (evalO s.env)) (s.h.over i.u fun _ => none)) with
        | some (.val a h1) =>
          let h' := h1.over i.u fun k => (s.h.L[k]?).join
          if (i.p.sites.all (fun k => !i.u.contains k) && !(i.p.inl && !i.u.isEmpty)) && (okAt s.h.G.length (i.u ++ i.turns) s.h.L && (h1.L.length == s.h.L.length && (i.loud || (quietB i.turns s.h h' && okAt s.h.G.length i.turns h'.L)))) then
            run prog n (.draw l (({ s with h := h' } : St).put i.dst a))
          else none
        | _ => none
      | none => none
variable {prog : String → Option IFn}
end Go.AM
namespace Go.AM
open Go.RowKit
variable {prog : String → Option IFn} {k : List Kf} {s : St} {Q : Out → St → Prop}
theorem cells_int {k n} : (AV.v (.int k n)).cellsOf = some [.v (.int k n)] := rfl
theorem cells_bool {b} : (AV.v (.bool b)).cellsOf = some [.v (.bool b)] := rfl
theorem cells_str {b} : (AV.v (str b)).cellsOf = some [.v (str b)] := rfl
theorem cells_own {a b c d e f} : (AV.own a b c d e f).cellsOf = some [.own a b c d e f] := rfl
theorem cells_ro {a b c d} : (AV.ro a b c d).cellsOf = some [.ro a b c d] := rfl
theorem cells_ptr {a b c} : (AV.ptr a b c).cellsOf = some [.ptr a b c] := rfl
theorem cells_nil {a b c} : (AV.v (.slice a b c)).cellsOf = some [.v (.slice a b c)] := rfl
theorem cells_string {b} : (AV.v (.string b)).cellsOf = some [.v (.string b)] := rfl
theorem cells_agg {cs} : (AV.agg cs).cellsOf = some cs := rfl
def storeB (B : Option Blk) (sz n off : Nat) (xs : Option (List AV)) (G L : List (Option Blk)) (j : Nat) : Option (AV × Hp) := match B, xs with
  | some B, some xs => if B.cells.length = n ∧ B.wr ∧ xs.length = sz ∧ off + sz ≤ n then some (.v undef, ⟨G, L.set j (some { B with cells := lay B.cells off xs, data := B.data && AV.lf.lfs xs })⟩) else none
  | _, _ => none
theorem storeX {G L j sz n off x} : prim ⟨G, L⟩ (.store sz false) [.ptr (.l j) n off, x] = storeB (L[j]?).join sz n off x.cellsOf G L j := by
  rw [px_store]
  cases hx : x.cellsOf with
  | none => simp only [Option.bind_none]; unfold storeB; split <;> simp_all
  | some xs =>
    simp only [Option.bind_some, Hp.mayFreeze, Bool.false_eq_true, if_false, Hp.get]
    cases hB : (L[j]?).join with
    | none => simp only [storeB]
    | some B =>
      simp only [storeB, Hp.put]
      by_cases hc : B.cells.length = n ∧ B.wr ∧ xs.length = sz ∧ off + sz ≤ n
      · rw [if_pos hc, if_pos ⟨hc.1, hc.2.1, hc.2.2.1, hc.2.2.2, rfl⟩]
      · rw [if_neg hc, if_neg (fun h => hc ⟨h.1, h.2.1, h.2.2.1, h.2.2.2.1⟩)]
theorem storeB_s {cells d sz n off xs G L j} : storeB (some (sBlk cells d)) sz n off (some xs) G L j = if cells.length = n ∧ xs.length = sz ∧ off + sz ≤ n then some (.v undef, ⟨G, L.set j (some (sBlk (lay cells off xs) (d && AV.lf.lfs xs)))⟩) else none := by
  simp [storeB, sBlk]
theorem noRef_v {ks x} : noRef ks (.v x) = true := rfl
theorem noRef_dead {ks} : noRef ks .dead = true := rfl
theorem noRef_own {ks j n off len esz cap} : noRef ks (.own (.l j) n off len esz cap) = !ks.contains j := by simp [noRef, AV.labs, labNot]
theorem noRef_ptr {ks j n off} : noRef ks (.ptr (.l j) n off) = !ks.contains j := by simp [noRef, AV.labs, labNot]
theorem noRef_out {ks g} {a : AV} (h : Outer g a) : noRef ks a = true := by
  unfold noRef
  refine all_imp h fun ℓ hl => ?_
  cases ℓ with
  | l j => simp [refLt] at hl
  | o p => rfl
theorem WP_fn {g first caps xs dst l} {x : Value} (he : Ev prog (.call g ((first ++ xs ++ caps).map (AV.ren (up s.h.G.length))) s.h.into) (.ret (.v x) s.h.into)) (hg : Good s.h) :
    WP prog (.callV []) (.fn g first caps :: xs) dst l k s Q ↔ WO prog l k (s.put dst (.v x)) Q := by
  have e1 : Ev prog (.op (.callV []) (.fn g first caps :: xs) s.h) (.val (.v x) s.h) := .opCallV hg.okBlks he (back_pure hg.refsOK)
  constructor
  · rintro ⟨a, h', e, h⟩
    have := ev_det e1 e
    simp only [Res.val.injEq] at this
    obtain ⟨rfl, rfl⟩ := this
    exact h
  · intro h; exact ⟨_, _, e1, h⟩
theorem WDP_go {p : Prim} {xs u m ld dst l} {a : AV} {h1 : Hp} (he : Ev prog (.op p xs (s.h.over u fun _ => none)) (.val a h1)) (hu : p.sites.all (fun k => !u.contains k) = true) (hg : Good s.h)
    (hl : h1.L.length = s.h.L.length) (hq : ld = true ∨ (Quiet (p.sites ++ m) s.h (h1.over u fun k => (s.h.L[k]?).join) ∧ Good (h1.over u fun k => (s.h.L[k]?).join)))
    (h : WD prog l k (({ s with h := h1.over u fun k => (s.h.L[k]?).join } : St).put dst a) Q) (hi : (p.inl && !u.isEmpty) = false := by first | rfl | simp) : WDP prog p xs u m ld dst l k s Q := by
  refine ⟨a, h1.over u fun k => (s.h.L[k]?).join, fun X hX => ?_, hg.okAt, ?_, fun k hk => ?_, h⟩
  · rw [over_over _ _ _ _ _ fun k hk => hk]
    refine ev_op_over (fun k hk => ?_) hi hX he
    have := List.all_eq_true.1 hu k hk
    simpa using this
  · rcases hq with hq | ⟨hq, hq2⟩
    · exact .inl hq
    · refine .inr ⟨hq, ?_⟩
      have e : (h1.over u fun k => (s.h.L[k]?).join).G = s.h.G := by
        rw [hq]; rfl
      have := hq2.okAt (u := p.sites ++ m)
      rw [e] at this
      exact this
  · simp only [Hp.over, over_get, hl]
    by_cases hkl : k < s.h.L.length
    · rw [if_pos ⟨hk, hkl⟩, List.getElem?_eq_getElem hkl]; rfl
    · rw [if_neg (fun hh => hkl hh.2), List.getElem?_eq_none (by omega), List.getElem?_eq_none (by omega)]
def WDX (prog : String → Option IFn) (r : Option (AV × Hp)) (u w : List Nat) (ld : Bool) (dst : Option Nat) (l : List IOp) (k : List Kf) (s : St) (Q : Out → St → Prop) : Prop :=
  ∃ a h1, r = some (a, h1) ∧ h1.L.length = s.h.L.length ∧ (ld = true ∨ (Quiet w s.h (h1.over u fun k => (s.h.L[k]?).join) ∧ Good (h1.over u fun k => (s.h.L[k]?).join))) ∧
    WD prog l k (({ s with h := h1.over u fun k => (s.h.L[k]?).join } : St).put dst a) Q
theorem WDP_er {p : Prim} {xs u m ld dst l} (hg : Good s.h) (hu : p.sites.all (fun k => !u.contains k) = true) (h : WDX prog (prim (s.h.over u fun _ => none) p xs) u (p.sites ++ m) ld dst l k s Q) (hi : (p.inl && !u.isEmpty) = false := by first | rfl | simp) :
    WDP prog p xs u m ld dst l k s Q := by
  obtain ⟨a, h1, hp, hl, hq, h⟩ := h
  exact WDP_go (.prim hp) hu hg hl hq h hi
theorem WDX_some {a h1 u w ld dst l} : WDX prog (some (a, h1)) u w ld dst l k s Q ↔ h1.L.length = s.h.L.length ∧ (ld = true ∨ (Quiet w s.h (h1.over u fun k => (s.h.L[k]?).join) ∧ Good (h1.over u fun k => (s.h.L[k]?).join))) ∧
    WD prog l k (({ s with h := h1.over u fun k => (s.h.L[k]?).join } : St).put dst a) Q := by
  constructor
  · rintro ⟨a', h2, e, h⟩; cases e; exact h
  · intro h; exact ⟨_, _, rfl, h⟩
theorem WP_of {p : Prim} {xs dst l} {a : AV} {h' : Hp} (he : Ev prog (.op p xs s.h) (.val a h')) (h : WO prog l k (({ s with h := h' } : St).put dst a) Q) : WP prog p xs dst l k s Q := ⟨a, h', he, h⟩
theorem down_into {h : Hp} {sites : List Nat} (i : Nat) : down h.G.length h.L.length sites (.o (h.into.length + i)) = (sites[i]?).map .l := by
  simp only [down, into_len]
  rw [if_neg (by omega), if_neg (by omega), Nat.add_sub_cancel_left]
theorem down_into0 {h : Hp} {sites : List Nat} : down h.G.length h.L.length sites (.o h.into.length) = (sites[0]?).map .l := down_into 0
theorem op_news {f xs sites Bs} {r r' : AV} {h : Hp} (hs : Ev prog (.call f (xs.map (AV.ren (up h.G.length))) h.into) (.ret r (h.into ++ Bs))) (hd : ∀ B ∈ Bs, ∀ b, B = some b → b.labs = []) (hl : Bs.length = sites.length)
    (hn : sites.Nodup) (hf : sites.all (free h.L) = true) (hg : Good h) (hr : r.ren (down h.G.length h.L.length sites) = r') : Ev prog (.op (.call f sites) xs h) (.val r' ⟨h.G, putAll h.L sites Bs⟩) := by
  subst hr
  refine .opCall hg.okBlks hs ?_
  rw [back_into (h' := h) rfl rfl hg.refsOK (by omega) hn hf hf]
  have e : padTo sites.length Bs = Bs := by unfold padTo; rw [hl, Nat.sub_self]; simp
  rw [e]
  congr 3
  have : Bs.map (Option.map (Blk.ren (down h.G.length h.L.length sites))) = Bs.map id := List.map_congr_left fun B hB => by
    cases B with
    | none => rfl
    | some b => simp only [Option.map_some, id_eq]; rw [blk_ren_id fun ℓ hℓ => by rw [hd _ hB b rfl] at hℓ; cases hℓ]
  rw [this, List.map_id]
theorem Good.putAll : ∀ {sites : List Nat} {G L Bs : List (Option Blk)}, Good ⟨G, L⟩ → (∀ B ∈ Bs, ∀ b, B = some b → b.labs = []) → Good ⟨G, AM.putAll L sites Bs⟩
  | [], G, L, [], hg, _ => hg
  | [], G, L, _ :: _, hg, _ => hg
  | s :: ss, G, L, [], hg, _ => hg
  | s :: ss, G, L, B :: Bs, hg, hd => by
    simp only [AM.putAll]
    exact Good.putAll (Good.setO (h := ⟨G, L⟩) hg (hd B (by simp))) fun C hC => hd C (by simp [hC])
theorem quiet_putAll {h : Hp} {sites m : List Nat} {Bs : List (Option Blk)} : Quiet (sites ++ m) h ⟨h.G, AM.putAll h.L sites Bs⟩ := by
  unfold Quiet
  refine Hp.over_ext rfl fun k => ?_
  simp only [Hp.over, over_get]
  split
  · rename_i hk
    have hl : k < (AM.putAll h.L sites Bs).length := by rw [putAll_lenA]; exact hk.2
    rw [List.getElem?_eq_getElem hl]; rfl
  · rename_i hk
    by_cases hs : k ∈ sites
    · have : ¬ (k < h.L.length) := fun h2 => hk ⟨by simp [hs], h2⟩
      rw [List.getElem?_eq_none (by rw [putAll_lenA]; omega), List.getElem?_eq_none (by omega)]
    · rw [putAll_no hs]
theorem WDP_news {f xs u m dst l ld sites Bs} {r r' : AV} (he : Ev prog (.call f (xs.map (AV.ren (up s.h.G.length))) (s.h.over u fun _ => none).into) (.ret r ((s.h.over u fun _ => none).into ++ Bs)))
    (hd : ∀ B ∈ Bs, ∀ b, B = some b → b.labs = []) (hl : Bs.length = sites.length) (hn : sites.Nodup) (hu : sites.all (fun k => !u.contains k) = true) (hf : sites.all (free s.h.L) = true) (hg : Good s.h)
    (hr : r.ren (down (s.h.over u fun _ => none).G.length (s.h.over u fun _ => none).L.length sites) = r')
    (h : WD prog l k (({ s with h := ⟨s.h.G, putAll s.h.L sites Bs⟩ } : St).put dst r') Q) : WDP prog (.call f sites) xs u m ld dst l k s Q := by
  have hu' : ∀ k ∈ sites, k ∉ u := fun k hk => by
    have := List.all_eq_true.1 hu k hk
    simpa using this
  have hf0 : sites.all (free (s.h.over u fun _ => none).L) = true := by
    rw [List.all_eq_true] at hf ⊢
    intro k hk
    have := hf k hk
    unfold free at this ⊢
    simp only [Hp.over, over_get]
    rw [if_neg fun h => hu' k hk h.1]
    exact this
  have e : (⟨(s.h.over u fun _ => none).G, putAll (s.h.over u fun _ => none).L sites Bs⟩ : Hp).over u (fun k => (s.h.L[k]?).join) = ⟨s.h.G, putAll s.h.L sites Bs⟩ := by
    refine Hp.over_ext rfl fun k => ?_
    simp only [Hp.over, over_get, putAll_lenA, over_length]
    by_cases hk : k ∈ u ∧ k < s.h.L.length
    · rw [if_pos hk, putAll_no (fun h => hu' k h hk.1), List.getElem?_eq_getElem hk.2]; rfl
    · rw [if_neg hk]
      refine putAll_same (over_length _ _ _) (fun hs => ?_) (by omega)
      rw [over_get, if_neg hk]
  refine WDP_go (op_news he hd hl hn hf0 (hg.over okX_none) hr) hu hg ?_ (.inr ?_) ?_
  · rw [putAll_lenA]; exact over_length _ _ _
  · rw [e]; exact ⟨quiet_putAll, Good.putAll (G := s.h.G) hg hd⟩
  · rw [e]; exact h
theorem WP_news {f xs dst l sites Bs} {r r' : AV} (he : Ev prog (.call f (xs.map (AV.ren (up s.h.G.length))) s.h.into) (.ret r (s.h.into ++ Bs)))
    (hd : ∀ B ∈ Bs, ∀ b, B = some b → b.labs = []) (hl : Bs.length = sites.length) (hn : sites.Nodup) (hf : sites.all (free s.h.L) = true) (hg : Good s.h)
    (hr : r.ren (down s.h.G.length s.h.L.length sites) = r')
    (h : WO prog l k (({ s with h := ⟨s.h.G, putAll s.h.L sites Bs⟩ } : St).put dst r') Q) : WP prog (.call f sites) xs dst l k s Q := WP_of (op_news he hd hl hn hf hg hr) h
theorem ren_own1 {h : Hp} {i n off len esz cap} : (AV.own (.o h.into.length) n off len esz cap).ren (down h.G.length h.L.length [i]) = .own (.l i) n off len esz cap := by simp only [AV.ren, down_into0]; rfl
theorem ren_pair {h : Hp} {i j n off len esz cap n' off' len' esz' cap'} : (AV.agg [.own (.o (h.into.length + 1)) n off len esz cap, .own (.o h.into.length) n' off' len' esz' cap']).ren (down h.G.length h.L.length [i, j]) =
    .agg [.own (.l j) n off len esz cap, .own (.l i) n' off' len' esz' cap'] := by simp only [AV.ren, AV.ren.rens, down_into, down_into0]; rfl
theorem build_v1 {G L} {j : Nat} {z x : Value} (hx : (AV.v x).cellsOf = some [.v x]) (hL : L[j]? = some none) :
    prim ⟨G, L⟩ (.buildSlice j false 1 1 [z] [(0, 1)]) [.v x] = some (.own (.l j) 1 0 1 1 (some 1), ⟨G, L.set j (some (dBlk [.v x] false false))⟩) :=
  build1 (n := 1) (xs := [.v x]) hL rfl rfl (by intro y hy; simp at hy; subst hy; exact hx) rfl
theorem build_string {G L} {j : Nat} {z : Value} {b : ByteArray} (hL : L[j]? = some none) :
    prim ⟨G, L⟩ (.buildSlice j false 1 1 [z] [(0, 1)]) [.v (.string b)] = some (.own (.l j) 1 0 1 1 (some 1), ⟨G, L.set j (some (dBlk [.v (.string b)] false false))⟩) := build_v1 rfl hL
theorem build_str {G L} {j : Nat} {z : Value} {b : List UInt8} (hL : L[j]? = some none) :
    prim ⟨G, L⟩ (.buildSlice j false 1 1 [z] [(0, 1)]) [.v (str b)] = some (.own (.l j) 1 0 1 1 (some 1), ⟨G, L.set j (some (dBlk [.v (str b)] false false))⟩) := build_v1 rfl hL
theorem build_int {G L} {j : Nat} {z : Value} {k n} (hL : L[j]? = some none) :
    prim ⟨G, L⟩ (.buildSlice j false 1 1 [z] [(0, 1)]) [.v (.int k n)] = some (.own (.l j) 1 0 1 1 (some 1), ⟨G, L.set j (some (dBlk [.v (.int k n)] false false))⟩) := build_v1 rfl hL
theorem box_vs {G L} {j : Nat} {s : List UInt8} (hL : L[j]? = some none) : prim ⟨G, L⟩ (.box j) [.v (str s)] = some (.ptr (.l j) 1 0, ⟨G, L.set j (some (sBlk [.v (str s)] true))⟩) := by
  rw [px_box, cells_str]
  simp only [Option.bind_some, Hp.new, hL, Option.map_some]; rfl
theorem box_vi {G L} {j : Nat} {k n} (hL : L[j]? = some none) : prim ⟨G, L⟩ (.box j) [.v (.int k n)] = some (.ptr (.l j) 1 0, ⟨G, L.set j (some (sBlk [.v (.int k n)] true))⟩) := by
  rw [px_box, cells_int]
  simp only [Option.bind_some, Hp.new, hL, Option.map_some]; rfl
theorem box_vb {G L} {j : Nat} {b} (hL : L[j]? = some none) : prim ⟨G, L⟩ (.box j) [.v (.bool b)] = some (.ptr (.l j) 1 0, ⟨G, L.set j (some (sBlk [.v (.bool b)] true))⟩) := by
  rw [px_box, cells_bool]
  simp only [Option.bind_some, Hp.new, hL, Option.map_some]; rfl
theorem new_s {G L} {j : Nat} {B : Blk} (hL : L[j]? = some none) : (⟨G, L⟩ : Hp).new j B = some ⟨G, L.set j (some B)⟩ := by simp only [Hp.new, hL]
theorem goodN {g k : Nat} {Bs} : goodL g k (none :: Bs) = goodL g (k + 1) Bs := rfl
theorem goodD {g k : Nat} {b : Option Blk} {Bs} (h : ∀ B, b = some B → B.labs = []) (h2 : goodL g (k + 1) Bs) : goodL g k (b :: Bs) := goodL_opt (fun B e => by rw [h B e]; rfl) h2
theorem data1 {B : Option Blk} (h : ∀ b, B = some b → b.labs = []) : ∀ C ∈ [B], ∀ b, C = some b → b.labs = [] := by intro C hC; simp at hC; subst hC; exact h
theorem data2 {A B : Option Blk} (ha : ∀ b, A = some b → b.labs = []) (h : ∀ b, B = some b → b.labs = []) : ∀ C ∈ [A, B], ∀ b, C = some b → b.labs = [] := by
  intro C hC; simp at hC; rcases hC with rfl | rfl
  · exact ha
  · exact h
theorem dBlk_l {cs o v} : ∀ b, some (dBlk cs o v) = some b → b.labs = [] := by intro b h; cases h; rfl
theorem fin_cell {t sz agg} {s : St} : fin [.cell t sz agg] s = ((prim s.h (.load sz agg) [s.env.getD t .dead]).map (·.1)).bind fun a => s.h.leave a := by
  simp only [fin, resVals, resVal]
  cases (prim s.h (.load sz agg) [s.env.getD t .dead]).map (·.1) <;> rfl
end Go.AM
