import Derived.Test.YtphknfgiljkjaaaAMB
import Derived.Laws.Externs
import Derived.KernelRfl
import Derived.Test.YtphknfgiljkjaaaAMA
import Derived.LoopN
import Derived.Tactics
set_option linter.unusedVariables false
set_option linter.unusedSimpArgs false
namespace Go.AM
open Go.RowKit
variable {fid : String → Option FuncId} {P : Program}
section
variable {w : World}
def srcType (P : Program) (u : TypeId) : Bool := match P.underlying u with | some (.slice _) => true | some .string => true | _ => false
theorem src_inv {u : TypeId} (h : srcType P u = true) : (∃ e, P.underlying u = some (.slice e)) ∨ P.underlying u = some .string := by
  unfold srcType at h
  split at h <;> first | (cases h; done) | skip
  · rename_i hu; exact .inl ⟨_, hu⟩
  · rename_i hu; exact .inr hu
theorem run_append_in {t u ty e esz n sLen sCap : Nat} {x : Value} {us : List Value} {a : Addr} {w' : World} (hu : P.underlying t = some (.slice e)) (hs : tSize P e esz = true)
    (hx : srcType P u = true) (hl : (Builtin.lenOf x).run P w = .ok n w) (hfc : (Builtin.firstCells esz n x).run P w = .ok us.toArray w) (hcap : sLen + n ≤ sCap)
    (hst : (storeCells (a.add (sLen * esz)) us).run P w = .ok () w') :
    (Builtin.append_ #[t, u] ty #[.slice (some a) sLen sCap, x]).run P w = .ok (.slice (some a) (sLen + n) sCap) w' := by
  rcases src_inv hx with ⟨e2, hd⟩ | hd <;>
  · simp only [Builtin.append_, List.getElem?_toArray, List.getElem?_cons_zero, List.getElem?_cons_succ, Sem.run_bind, run_underlying hu, Result.andThen_ok, tSize_run hs,
      run_underlying hd, Sem.run_pure]
    simp [hl, hcap, hfc, hst]
theorem run_append_grow {t u ty e esz bytes n sLen sCap : Nat} {x : Value} {us os : List Value} {base : Option Addr} (hu : P.underlying t = some (.slice e)) (hs : tSize P e esz = true)
    (hb : tBytes P e bytes = true) (hb0 : 0 < bytes) (hz0 : (P.info? e).any (fun i => (i.zero.map (·.cells.size)) == some esz) = true) (hone : ∀ i z, P.info? e = some i → i.zero = some z → ∀ y ∈ z.cells, y.oneCell' = true)
    (hx : srcType P u = true) (hl : (Builtin.lenOf x).run P w = .ok n w) (hfc : ∀ k, (Builtin.firstCells esz n x).run P { w with drawn := k } = .ok us.toArray { w with drawn := k })
    (hold : ∀ k, (Builtin.firstCells esz sLen (.slice base sLen sCap)).run P { w with drawn := k } = .ok os.toArray { w with drawn := k }) (hcap : sCap < sLen + n) (hroom : (sLen + n) * bytes ≤ room) :
    ∃ C rest, sLen + n ≤ C ∧ rest.length = (C - (sLen + n)) * esz ∧ (∀ y ∈ rest, y.oneCell' = true) ∧
      (Builtin.append_ #[t, u] ty #[.slice base sLen sCap, x]).run P w =
        .ok (.slice (some ⟨w.heap.size, 0, none⟩) (sLen + n) C) { w with drawn := w.drawn + 1, heap := w.heap.push (.cells (os ++ us ++ rest).toArray e) } := by
  obtain ⟨i, hi, hib⟩ := tBytes_run hb
  rw [hi] at hz0
  simp only [Option.any_some, beq_iff_eq, Option.map_eq_some_iff] at hz0
  obtain ⟨z, hz1, hz2⟩ := hz0
  have hcut : ∃ C, (Question.appendCap (sLen + n) sCap e).cut (w.tape w.drawn (.appendCap (sLen + n) sCap e)) = C ∧ sLen + n ≤ C := ⟨_, rfl, by simp [Question.cut]⟩
  obtain ⟨C, hC, hCle⟩ := hcut
  have hsz : (Builtin.zeroCells z.cells (C - (sLen + n))).size = (C - (sLen + n)) * esz := by simp [Builtin.zeroCells, hz2]
  refine ⟨C, (Builtin.zeroCells z.cells (C - (sLen + n))).toList, hCle, by simpa using hsz, fun y hy => ?_, ?_⟩
  · simp only [Builtin.zeroCells, Array.mem_toList_iff, Array.mem_map, Array.mem_range] at hy
    obtain ⟨j, hj, rfl⟩ := hy
    have hpos : 0 < z.cells.size := by
      rcases Nat.eq_zero_or_pos z.cells.size with h | h
      · rw [h] at hj; simp at hj
      · exact h
    have hlt : j % z.cells.size < z.cells.size := Nat.mod_lt _ hpos
    rw [getElem!_pos z.cells _ hlt]
    exact hone i z hi hz1 _ (Array.getElem_mem hlt)
  · have hmx : ¬ (((sLen + n : Nat) : Int) > IntKind.i64.max ∧ ((false = true) ∨ bytes = 0)) := by
      rintro ⟨_, h | h⟩
      · cases h
      · omega
    have hnr : ¬ (Builtin.nextslicecap (sLen + n) sCap * bytes > 2 ^ 48) := by
      have h1 := nextslicecap_le hcap
      have h2 : Builtin.nextslicecap (sLen + n) sCap * bytes ≤ 2 * (sLen + n) * bytes := Nat.mul_le_mul_right _ h1
      have h3 : 2 * (sLen + n) * bytes = 2 * ((sLen + n) * bytes) := Nat.mul_assoc _ _ _
      unfold room at hroom
      omega
    have hn : ¬ sLen + n ≤ sCap := by omega
    have h1 := hold (w.drawn + 1)
    have h2 := hfc (w.drawn + 1)
    rcases src_inv hx with ⟨e2, hd⟩ | hd <;>
    · simp only [Builtin.append_, List.getElem?_toArray, List.getElem?_cons_zero, List.getElem?_cons_succ, Sem.run_bind, run_underlying hu, Result.andThen_ok, tSize_run hs,
        run_underlying hd, Sem.run_pure]
      simp only [Result.andThen_ok, Bool.false_eq_true, if_false, hl, if_neg hn, typeInfo, Sem.run_bind, run_program, hi, Sem.run_pure, hib]
      rw [if_neg (by simpa using hmx)]
      simp only [Sem.run_bind, run_program, Result.andThen_ok, hi, Sem.run_pure, hib, if_neg hnr]
      simp only [run_choose, Question.forced, Bool.false_eq_true, if_false, hC, Result.andThen_ok, run_askRoom, h1, h2, Bool.not_false, if_true]
      simp [zeroValue, typeInfo, hi, hz1, newRow]
      have e : ((os ++ us).toArray ++ Builtin.zeroCells z.cells (C - (sLen + n))) = (os ++ (us ++ (Builtin.zeroCells z.cells (C - (sLen + n))).toList)).toArray := by
        apply Array.toList_inj.1; simp
      rw [e]
      rfl
structure AppT (P : Program) (t u : TypeId) (esz bytes : Nat) : Prop where
  e : ∃ e, P.underlying t = some (.slice e) ∧ tSize P e esz = true ∧ tBytes P e bytes = true ∧ (P.info? e).any (fun i => (i.zero.map (·.cells.size)) == some esz) = true ∧
    ∀ i z, P.info? e = some i → i.zero = some z → ∀ y ∈ z.cells, y.oneCell' = true
  src : srcType P u = true
  pos : 0 < esz
  bpos : 0 < bytes
theorem grow_row {base w0 μ} {h h' : Hp} {e n' : Nat} (S : Sim fid base w0 w μ h.get) {os us rest : List Value} {oc uc : List AV} {B' : Blk}
    (RO : Reps fid w (Wr μ h.get) (info μ h.get) os oc) (RU : Reps fid w (Wr μ h.get) (info μ h.get) us uc) (ho : ∀ v ∈ os, v.oneCell' = true) (hu : ∀ v ∈ us, v.oneCell' = true)
    (hr : ∀ v ∈ rest, v.oneCell' = true) (hcells : B'.cells = oc ++ uc) (hopn : B'.opn = true) (hv : B'.virt = false) (hdata : B'.data = true → AV.lf.lfs B'.cells = true) :
    let c := (os ++ us ++ rest).toArray
    B'.cells.length ≤ c.size ∧ (∀ x ∈ c, x.oneCell' = true) ∧ (B'.opn = false → B'.cells.length = c.size) ∧
      ∀ (i : Nat) a, B'.cells[i]? = some a → ∃ x, c[i]? = some x ∧ Rep fid w (Wr μ h.get) (info μ h.get) x a := by
  intro c
  have R := RO.append RU
  refine ⟨by simp [c, hcells, ← RO.1, ← RU.1], fun x hx => ?_, fun h => (by rw [hopn] at h; cases h), fun i a ha => ?_⟩
  · simp only [c, List.mem_toArray, List.mem_append] at hx
    rcases hx with (hx | hx) | hx
    · exact ho x hx
    · exact hu x hx
    · exact hr x hx
  · rw [hcells] at ha
    have hi : i < (os ++ us).length := by
      rw [R.1]
      by_cases hi : i < (oc ++ uc).length
      · exact hi
      · rw [List.getElem?_eq_none (by omega)] at ha; cases ha
    refine ⟨(os ++ us)[i], ?_, R.2 i _ a (List.getElem?_eq_getElem hi) ha⟩
    simp only [c, List.getElem?_toArray]
    rw [List.getElem?_append_left hi, List.getElem?_eq_getElem hi]
theorem append_core {base w0 μ} {h1 h' : Hp} (S1 : Sim fid base w0 w μ h1.get) {A : Value → Sem Value} {site esz bytes k : Nat} {e : TypeId} {x a r} {us : List Value} {new' : List AV}
    (pos : 0 < esz) (q1 : Rep fid w (Wr μ h1.get) (info μ h1.get) x a) (RU : Reps fid w (Wr μ h1.get) (info μ h1.get) us new') (hu1 : ∀ v ∈ us, v.oneCell' = true) (hul : us.length = k * esz)
    (run0 : k = 0 → ∀ (ad : Option Addr) (len C : Nat), len ≤ C → (ad = none → len = 0 ∧ C = 0) → (A (.slice ad len C)).run P w = .ok (.slice ad len C) w)
    (RI : ∀ {sLen sCap : Nat} {a : Addr} {w' : World}, sLen + k ≤ sCap → (storeCells (a.add (sLen * esz)) us).run P w = .ok () w' →
      (A (.slice (some a) sLen sCap)).run P w = .ok (.slice (some a) (sLen + k) sCap) w')
    (RG : ∀ {base : Option Addr} {sLen sCap : Nat} {os : List Value}, (∀ j, (Builtin.firstCells esz sLen (.slice base sLen sCap)).run P { w with drawn := j } = .ok os.toArray { w with drawn := j }) →
      sCap < sLen + k → (sLen + k) * bytes ≤ room →
      ∃ C rest, sLen + k ≤ C ∧ rest.length = (C - (sLen + k)) * esz ∧ (∀ y ∈ rest, y.oneCell' = true) ∧
        (A (.slice base sLen sCap)).run P w =
          .ok (.slice (some ⟨w.heap.size, 0, none⟩) (sLen + k) C) { w with drawn := w.drawn + 1, heap := w.heap.push (.cells (os ++ us ++ rest).toArray e) })
    (hp2 : h1.append site esz bytes a k new' = some (r, h')) :
    ∃ z w', (A x).run P w = .ok z w' ∧ Post fid base w0 w μ h1.get w' h'.get z r := by
  unfold Hp.append at hp2
  split at hp2 <;> first | (cases hp2; done) | skip
  rename_i hl
  have hnew : new' = [] → us = [] := fun h => by rw [h] at RU; exact RU.nil_inv
  split at hp2
  · -- nil
    have := q1.v_inv; subst this
    split at hp2
    · rename_i hk
      cases hp2
      exact ⟨_, _, run0 hk none 0 0 (Nat.le_refl _) (fun _ => ⟨rfl, rfl⟩), μ, S1, .refl _ _ _, .v _⟩
    · rename_i hk
      split at hp2 <;> first | (cases hp2; done) | skip
      rename_i hroom
      obtain ⟨h2, hn, he⟩ := Option.map_eq_some_iff.1 hp2
      cases he
      obtain ⟨C, rest, hC, hrl, hr1, hrun⟩ := RG (base := none) (sLen := 0) (sCap := 0) (os := [])
        (fun k => by simp [Builtin.firstCells]) (by omega) (by simpa using hroom)
      rw [Nat.zero_add] at hrun hC hrl
      obtain ⟨g1, g2, g3, g4⟩ := grow_row (e := e) (n' := 0) (h' := h1) S1 (rest := rest) .nil RU (by simp) hu1 hr1 (B' := { cells := new', opn := true, wr := true, data := AV.lf.lfs new', virt := false }) rfl rfl rfl (fun h => h)
      obtain ⟨S2, p2, hi⟩ := sim_new S1 hn { w with drawn := w.drawn + 1, heap := w.heap.push (.cells ([] ++ us ++ rest).toArray e) } ([] ++ us ++ rest).toArray e 0 0 rfl rfl rfl rfl (.inl rfl) rfl g1 g3 g2
        (fun h => h) g4
      refine ⟨_, _, hrun, _, S2, p2, ?_⟩
      have hsz : ([] ++ us ++ rest).toArray.size = C * esz := by
        simp [hul, hrl]
        rw [← Nat.add_mul]; congr 1; omega
      have hkC : k * esz ≤ C * esz := Nat.mul_le_mul_right _ (by omega)
      refine .own hi (by simp [hl]) (fun _ => ?_) ⟨_, _, rfl, hC, fun h => (by cases h), fun c hc => by cases hc⟩
      unfold OwnOK
      rw [if_neg (by simp)]
      exact ⟨_, _, rfl, hC, .inr rfl, by simp only; rw [hsz]; simp, fun c hc => (by cases hc), fun _ => (by simp [hl]; exact hkC), by simp [hl]⟩
  · -- own
    rename_i ℓ n off len esz' cap
    cases hb' : h1.get ℓ with
    | none => simp [hb'] at hp2
    | some B =>
    simp only [hb'] at hp2
    split at hp2 <;> first | (cases hp2; done) | skip
    rename_i hc
    obtain ⟨hBn, he', hroom, hok⟩ := hc
    subst he'
    have ok := q1.own_inv S1 hb' hBn
    have hsh : ∃ ad C, x = .slice ad len C ∧ len ≤ C ∧ (ad = none → len = 0 ∧ C = 0) ∧ ∀ c, cap = some c → C = c := by
      cases q1 with
      | own hM hn hh hlen => exact hlen
    obtain ⟨ad, C, rfl, hlC, hadn, hcap⟩ := hsh
    split at hp2
    · rename_i hk
      cases hp2
      exact ⟨_, _, run0 hk ad len C hlC hadn, μ, S1, .refl _ _ _, q1⟩
    · rename_i hk
      have hk0 : 0 < k := by omega
      have eadd : (len + k) * esz' = len * esz' + k * esz' := Nat.add_mul _ _ _
      have old : B.virt = false → ∃ a2, ad = some a2 ∧ (C = 0 ∨ a2 = ⟨(μ ℓ).1, off, none⟩) ∧ off + C * esz' ≤ (μ ℓ).2 ∧ (cap = none → n ≤ off + C * esz') ∧ (∀ c, cap = some c → off + c * esz' ≤ n) ∧ off + len * esz' ≤ n := by
        intro hv
        unfold OwnOK at ok
        rw [if_neg (by simp [hv])] at ok
        obtain ⟨a2, C2, g1, g2, g3, g4, g5, g6, g7⟩ := ok
        cases g1
        simp only at g3 g4 g5 g6 g7
        exact ⟨a2, rfl, g3, g4, fun h => by have := g6 h; omega, fun c hc => by have := (g5 c hc).2; omega, by omega⟩
      have oldv : B.virt = true → ad = none ∧ C = 0 ∧ off = 0 ∧ len = 0 := by
        intro hv
        unfold OwnOK at ok
        rw [if_pos hv] at ok
        obtain ⟨g1, g2, g3⟩ := ok
        cases g1
        exact ⟨rfl, rfl, g2, rfl⟩
      have hold : ∃ os : List Value, Reps fid w (Wr μ h1.get) (info μ h1.get) os ((B.cells.drop off).take (len * esz')) ∧ (∀ v ∈ os, v.oneCell' = true) ∧ os.length = len * esz' ∧
          ∀ n', (Builtin.firstCells esz' len (.slice ad len C)).run P { w with drawn := n' } = .ok os.toArray { w with drawn := n' } := by
        by_cases hv : B.virt = true
        · obtain ⟨rfl, rfl, rfl, rfl⟩ := oldv hv
          exact ⟨[], by simp; exact .nil, by simp, by simp, fun n' => by simp [Builtin.firstCells]⟩
        · have hv : B.virt = false := by simpa using hv
          obtain ⟨a2, rfl, g3, g4, g5, g6, g7⟩ := old hv
          obtain ⟨os, hol, hcell, ho1, RO⟩ := cells_at S1 hb' hv (off := off) (n := len * esz') (by rw [hBn]; exact g7)
          refine ⟨os, RO, ho1, hol, fun n' => ?_⟩
          rcases g3 with g3 | rfl
          · have : len = 0 := by omega
            subst this
            have : os = [] := List.eq_nil_of_length_eq_zero (by rw [hol]; simp)
            subst this
            simp [Builtin.firstCells, loadCells, loadCellsFrom]
          · simp only [Builtin.firstCells]
            exact run_cells hol hcell
      obtain ⟨os, RO, ho1, hol, hofc⟩ := hold
      have hdat := (S1.ok.blk ℓ B hb').data
      have hlfO : B.data = true → AV.lf.lfs ((B.cells.drop off).take (len * esz')) = true := fun hd => lfs_take (lfs_drop (hdat hd) _) _
      have inplace : B.virt = false → B.wr = true → len + k ≤ C → off + (len + k) * esz' ≤ n → ∃ w',
          (A (.slice ad len C)).run P w = .ok (.slice ad (len + k) C) w' ∧
          Sim fid base w0 w' μ (h1.put ℓ (some { B with cells := lay B.cells (off + len * esz') new', data := B.data && AV.lf.lfs new' })).get ∧
          Pres w (Wr μ h1.get) (info μ h1.get) w' (Wr μ (h1.put ℓ (some { B with cells := lay B.cells (off + len * esz') new', data := B.data && AV.lf.lfs new' })).get)
            (info μ (h1.put ℓ (some { B with cells := lay B.cells (off + len * esz') new', data := B.data && AV.lf.lfs new' })).get) := by
        intro hv hwr hCk hn'
        obtain ⟨a2, rfl, g3, g4, g5, g6, g7⟩ := old hv
        obtain ⟨w', hst, S', p'⟩ := put_lay S1 hb' hwr hv RU hu1 (off := off + len * esz') (by rw [hl, hBn]; omega)
        refine ⟨w', ?_, S', p'⟩
        have ha : a2 = ⟨(μ ℓ).1, off, none⟩ := g3.resolve_left (by omega)
        subst ha
        exact RI hCk (by rw [add_off]; exact hst P)
      cases cap with
      | some c =>
        simp only at hp2
        have hCc := hcap c rfl
        subst hCc
        split at hp2
        · rename_i hck
          split at hp2 <;> first | (cases hp2; done) | skip
          rename_i hwr
          cases hp2
          have hv : B.virt = false := by
            cases hv : B.virt with
            | false => rfl
            | true => have := oldv hv; omega
          obtain ⟨a2, rfl, g3, g4, g5, g6, g7⟩ := old hv
          have hle : off + (len + k) * esz' ≤ n := by
            have := g6 C rfl
            have h3 : (len + k) * esz' ≤ C * esz' := Nat.mul_le_mul_right _ hck
            omega
          obtain ⟨w', hrun, S', p'⟩ := inplace hv hwr hck hle
          refine ⟨_, _, hrun, μ, S', p', ?_⟩
          have hM := p'.lab ℓ _ (show info μ h1.get ℓ = some ⟨(μ ℓ).1, B.cells.length, B.virt, (μ ℓ).2⟩ by simp [info, hb'])
          have hlay : (lay B.cells (off + len * esz') new').length = B.cells.length := lay_length (by rw [hl, hBn]; omega)
          have hI : info μ (h1.put ℓ (some { B with cells := lay B.cells (off + len * esz') new', data := B.data && AV.lf.lfs new' })).get ℓ = some ⟨(μ ℓ).1, n, false, (μ ℓ).2⟩ := by
            rw [put_get hb']; simp [info, upd, hlay, hBn, hv]
          refine .own hI (Nat.le_refl _) (fun _ => ?_) ⟨_, _, rfl, hck, fun h => (by cases h), fun c hc => (by cases hc; rfl)⟩
          unfold OwnOK
          rw [if_neg (by simp)]
          exact ⟨_, _, rfl, hck, g3, g4, fun c hc => (by cases hc; exact ⟨rfl, g6 C rfl⟩), fun h => (by cases h), hle⟩
        · rename_i hck
          obtain ⟨h2, hn, he⟩ := Option.map_eq_some_iff.1 hp2
          cases he
          obtain ⟨C', rest, hC, hrl, hr1, hrun⟩ := RG (base := ad) (sLen := len) (sCap := C) hofc (by omega) hroom
          obtain ⟨g1, g2, g3, g4⟩ := grow_row (e := e) (n' := 0) (h' := h1) S1 (rest := rest) RO RU ho1 hu1 hr1
            (B' := { cells := (B.cells.drop off).take (len * esz') ++ new', opn := true, wr := true, data := B.data && AV.lf.lfs new', virt := false }) rfl rfl rfl
            (fun h => by simp only [Bool.and_eq_true] at h; simp only [lfs_append, Bool.and_eq_true]; exact ⟨hlfO h.1, h.2⟩)
          obtain ⟨S2, p2, hi⟩ := sim_new S1 hn { w with drawn := w.drawn + 1, heap := w.heap.push (.cells (os ++ us ++ rest).toArray e) } (os ++ us ++ rest).toArray e 0 0 rfl rfl rfl rfl (.inl rfl) rfl g1 g3 g2
            (fun h => by simp only [Bool.and_eq_true] at h; simp only [lfs_append, Bool.and_eq_true]; exact ⟨hlfO h.1, h.2⟩) g4
          refine ⟨_, _, hrun, _, S2, p2, ?_⟩
          have hsz : (os ++ us ++ rest).toArray.size = C' * esz' := by
            simp only [List.size_toArray, List.length_append, hol, hul, hrl]
            rw [← eadd, ← Nat.add_mul]; congr 1; omega
          have hcl : ((B.cells.drop off).take (len * esz') ++ new').length = (len + k) * esz' := by
            rw [List.length_append, ← RO.1, hol, hl, eadd]
          have hkC : (len + k) * esz' ≤ C' * esz' := Nat.mul_le_mul_right _ hC
          refine .own hi (by simp only; rw [hcl]; exact Nat.le_refl _) (fun _ => ?_) ⟨_, _, rfl, hC, fun h => (by cases h), fun c hc => by cases hc⟩
          unfold OwnOK
          rw [if_neg (by simp)]
          exact ⟨_, _, rfl, hC, .inr rfl, by simp only; rw [hsz]; simp, fun c hc => (by cases hc), fun _ => (by simp only; rw [hcl]; simpa using hkC), by simp only; rw [hcl]; simp⟩
      | none =>
        simp only at hp2
        split at hp2 <;> first | (cases hp2; done) | skip
        rename_i hwr
        have hwr : B.wr = true := by simpa using hwr
        split at hp2
        · rename_i hle
          cases hp2
          have hv : B.virt = false := by
            cases hv : B.virt with
            | false => rfl
            | true =>
              have := (S1.ok.blk ℓ B hb').virt hv
              rw [this.1] at hBn
              simp at hBn
              have : 0 < (len + k) * esz' := Nat.mul_pos (by omega) pos
              omega
          obtain ⟨a2, rfl, g3, g4, g5, g6, g7⟩ := old hv
          have hCk : len + k ≤ C := by
            have h3 := g5 rfl
            have h4 : (len + k) * esz' ≤ C * esz' := by omega
            exact Nat.le_of_mul_le_mul_right h4 pos
          obtain ⟨w', hrun, S', p'⟩ := inplace hv hwr hCk hle
          refine ⟨_, _, hrun, μ, S', p', ?_⟩
          have hlay : (lay B.cells (off + len * esz') new').length = B.cells.length := lay_length (by rw [hl, hBn]; omega)
          have hI : info μ (h1.put ℓ (some { B with cells := lay B.cells (off + len * esz') new', data := B.data && AV.lf.lfs new' })).get ℓ = some ⟨(μ ℓ).1, n, false, (μ ℓ).2⟩ := by
            rw [put_get hb']; simp [info, upd, hlay, hBn, hv]
          refine .own hI (Nat.le_refl _) (fun _ => ?_) ⟨_, _, rfl, hCk, fun h => (by cases h), fun c hc => (by cases hc)⟩
          unfold OwnOK
          rw [if_neg (by simp)]
          exact ⟨_, _, rfl, hCk, g3, g4, fun c hc => (by cases hc), fun _ => g5 rfl, hle⟩
        · rename_i hle
          split at hp2 <;> first | (cases hp2; done) | skip
          rename_i hopn
          obtain ⟨hoff, hopn⟩ := hopn
          subst hoff
          cases hp2
          simp only [Nat.zero_add] at hle
          have hcl : (B.cells.take (len * esz') ++ new').length = (len + k) * esz' := by
            have := RO.1
            rw [hol, List.drop_zero] at this
            rw [List.length_append, ← this, hl, eadd]
          have hgrow : B.cells.length < (B.cells.take (len * esz') ++ new').length := by rw [hcl, hBn]; omega
          by_cases hCk : len + k ≤ C
          · -- there is room
            have hv : B.virt = false := by
              cases hv : B.virt with
              | false => rfl
              | true => have := oldv hv; omega
            obtain ⟨a2, rfl, g3, g4, g5, g6, g7⟩ := old hv
            have ha : a2 = ⟨(μ ℓ).1, 0, none⟩ := g3.resolve_left (by omega)
            subst ha
            obtain ⟨c, e0, lo, hi, k1, k2, k3, k4, k5, k6, k7⟩ := S1.row hb' hv
            have hlt : (μ ℓ).1 < w.heap.size := (S1.ok.blk ℓ B hb').lt hv
            have hCe : (len + k) * esz' ≤ C * esz' := Nat.mul_le_mul_right _ hCk
            have hoff : len * esz' + us.length ≤ c.size := by rw [hul]; omega
            have hst := run_storeCells_blk (P := P) us 0 c w (μ ℓ).1 (len * esz') e0 lo hi k1 (nofr k3) (by simpa using hoff) hu1
            rw [Nat.add_zero] at hst
            have hrun := RI (sLen := len) (sCap := C) hCk (by rw [add_off, Nat.zero_add]; exact hst)
            rw [List.drop_zero] at RO hlfO
            obtain ⟨S2, p2, hi2⟩ := sim_put S1 (B' := { B with cells := B.cells.take (len * esz') ++ new', data := B.data && AV.lf.lfs new', virt := false }) hb' hwr
              (setBlk w (μ ℓ).1 (.cells (layC c (len * esz') us) e0 (lo, hi))) (μ ℓ).1 (layC c (len * esz') us) e0 lo hi
              (by simp [setBlk, hlt]) (fun k hk hne => by simp [setBlk, Ne.symm hne]) (by simp [setBlk]) rfl rfl rfl (.inl ⟨hv, rfl⟩)
              (by rw [layC_size hoff]; exact k3) rfl (by simp only; rw [hcl, layC_size hoff]; omega) (fun h => by simp only [hopn] at h; cases h) (.inr hgrow)
              (fun x hx => by
                rcases layC_mem hx with hx | hx
                · exact k6 x hx
                · exact hu1 x hx)
              (fun h => by simp only [Bool.and_eq_true] at h; simp only [lfs_append, Bool.and_eq_true]; exact ⟨hlfO h.1, h.2⟩)
              (fun i a ha => by
                simp only at ha
                rw [layC_get hoff]
                have hol' : (B.cells.take (len * esz')).length = len * esz' := by rw [← RO.1, hol]
                by_cases hi' : i < len * esz'
                · rw [List.getElem?_append_left (by omega), List.getElem?_take, if_pos hi'] at ha
                  rw [if_pos hi']
                  exact k7 i a ha
                · rw [List.getElem?_append_right (by omega), hol'] at ha
                  rw [if_neg hi']
                  have hj : i - len * esz' < us.length := by
                    rw [RU.1]
                    by_cases hj : i - len * esz' < new'.length
                    · exact hj
                    · rw [List.getElem?_eq_none (by omega)] at ha; cases ha
                  rw [if_pos (by omega)]
                  exact ⟨us[i - len * esz'], List.getElem?_eq_getElem hj, RU.2 _ _ _ (List.getElem?_eq_getElem hj) ha⟩)
            refine ⟨_, _, hrun, _, S2, p2, ?_⟩
            refine .own hi2 (by simp only; rw [hcl]; exact Nat.le_refl _) (fun _ => ?_) ⟨_, _, rfl, hCk, fun h => (by cases h), fun c hc => by cases hc⟩
            unfold OwnOK
            rw [if_neg (by simp)]
            exact ⟨_, _, rfl, hCk, .inr rfl, by simp only; rw [layC_size hoff]; omega, fun c hc => (by cases hc), fun _ => (by simp only; rw [hcl]; omega), by simp only; rw [hcl]; simp⟩
          · -- a new row
            obtain ⟨C', rest, hC, hrl, hr1, hrun⟩ := RG (base := ad) (sLen := len) (sCap := C) hofc (by omega) hroom
            rw [List.drop_zero] at RO hlfO
            obtain ⟨g1, g2, g3, g4⟩ := grow_row (e := e) (n' := 0) (h' := h1) S1 (rest := rest) RO RU ho1 hu1 hr1
              (B' := { B with cells := B.cells.take (len * esz') ++ new', data := B.data && AV.lf.lfs new', virt := false }) rfl hopn rfl
              (fun h => by simp only [Bool.and_eq_true] at h; simp only [lfs_append, Bool.and_eq_true]; exact ⟨hlfO h.1, h.2⟩)
            obtain ⟨S2, p2, hi⟩ := sim_put S1 (B' := { B with cells := B.cells.take (len * esz') ++ new', data := B.data && AV.lf.lfs new', virt := false }) hb' hwr
              { w with drawn := w.drawn + 1, heap := w.heap.push (.cells (os ++ us ++ rest).toArray e) } w.heap.size (os ++ us ++ rest).toArray e 0 0 (by simp)
              (fun k hk _ => by simp [Array.getElem?_push]; intro h; omega) (by simp) rfl rfl rfl (.inr (Nat.le_refl _)) (.inl rfl) rfl g1 g3 (.inr hgrow) g2
              (fun h => by simp only [Bool.and_eq_true] at h; simp only [lfs_append, Bool.and_eq_true]; exact ⟨hlfO h.1, h.2⟩) g4
            refine ⟨_, _, hrun, _, S2, p2, ?_⟩
            have hsz : (os ++ us ++ rest).toArray.size = C' * esz' := by
              simp only [List.size_toArray, List.length_append, hol, hul, hrl]
              rw [← eadd, ← Nat.add_mul]; congr 1; omega
            have hkC : (len + k) * esz' ≤ C' * esz' := Nat.mul_le_mul_right _ hC
            refine .own hi (by simp only; rw [hcl]; exact Nat.le_refl _) (fun _ => ?_) ⟨_, _, rfl, hC, fun h => (by cases h), fun c hc => by cases hc⟩
            unfold OwnOK
            rw [if_neg (by simp)]
            exact ⟨_, _, rfl, hC, .inr rfl, by simp only; rw [hsz]; simp, fun c hc => (by cases hc), fun _ => (by simp only; rw [hcl]; simpa using hkC), by simp only; rw [hcl]; simp⟩
  · -- what stays
    split at hp2 <;> first | (cases hp2; done) | skip
    rename_i nl esz' len cells hk
    cases hp2
    cases q1 with
    | ro us' hlen' hlf hro hcs =>
      have hx : ∃ ad C, x = .slice ad len C ∧ len ≤ C ∧ (ad = none → len = 0 ∧ C = 0) := by
        cases nl with
        | true => obtain ⟨rfl, rfl⟩ := hro.1 rfl; exact ⟨_, _, rfl, Nat.le_refl _, fun _ => ⟨rfl, rfl⟩⟩
        | false => obtain ⟨ad, C, rfl, hle, _⟩ := hro.2 rfl; exact ⟨_, _, rfl, hle, fun h => by cases h⟩
      obtain ⟨ad, C, rfl, hle, hn⟩ := hx
      exact ⟨_, _, run0 hk ad len C hle hn, μ, S1, .refl _ _ _, .ro us' hlen' hlf hro hcs⟩
  · cases hp2
theorem s_append {base w0 μ} {h h' : Hp} (S : Sim fid base w0 w μ h.get) {t u ty site frz esz bytes x y a b r} (T : AppT P t u esz bytes)
    (R1 : Rep fid w (Wr μ h.get) (info μ h.get) x a) (R2 : Rep fid w (Wr μ h.get) (info μ h.get) y b) (hp : prim h (.append site frz esz bytes) [a, b] = some (r, h')) :
    ∃ z w', (Builtin.append_ #[t, u] ty #[x, y]).run P w = .ok z w' ∧ Post fid base w0 w μ h.get w' h'.get z r := by
  obtain ⟨e, hu, hs, hb, hz0, hone⟩ := T.e
  simp only [prim] at hp
  obtain ⟨⟨k, new⟩, hsrc, hp1⟩ := Option.bind_eq_some_iff.1 hp
  obtain ⟨⟨new', h1⟩, hfz, hp2⟩ := Option.bind_eq_some_iff.1 hp1
  simp only at hp2
  have hsrcl : ∀ (hl : new'.length = k * esz), ∃ us : List Value, Reps fid w (Wr μ h1.get) (info μ h1.get) us new' ∧ (∀ v ∈ us, v.oneCell' = true) ∧ us.length = k * esz ∧
      (∀ w' : World, (Builtin.lenOf y).run P w' = .ok k w') ∧ (∀ n' : Nat, (Builtin.firstCells esz k y).run P { w with drawn := n' } = .ok us.toArray { w with drawn := n' }) ∧
      Sim fid base w0 w μ h1.get ∧ Pres w (Wr μ h.get) (info μ h.get) w (Wr μ h1.get) (info μ h1.get) := by
    intro hl
    have hnl : new.length = new'.length := by
      unfold Hp.mayFreeze at hfz
      split at hfz
      · have : ∀ (as as' : List AV) (h h' : Hp), h.freezes as = some (as', h') → as.length = as'.length := by
          intro as
          induction as with
          | nil => intro as' h h' hh; simp only [Hp.freezes, Option.some.injEq, Prod.mk.injEq] at hh; rw [← hh.1]
          | cons a as ih =>
            intro as' h h' hh
            simp only [Hp.freezes] at hh
            obtain ⟨⟨a1, g1⟩, _, hh2⟩ := Option.bind_eq_some_iff.1 hh
            obtain ⟨⟨as2, g2⟩, hh3, he⟩ := Option.map_eq_some_iff.1 hh2
            cases he
            simp [ih _ _ _ hh3]
        exact this _ _ _ _ hfz
      · cases hfz; rfl
    obtain ⟨us, RR, g1, g2, g3⟩ := source_sound (P := P) (u := u) S R2 hsrc esz (by omega) T.src
    obtain ⟨S1, p1, RR1⟩ := mayFreeze_sound S RR hfz
    refine ⟨us, RR1, g1, by rw [RR1.1, hl], g2, fun n' => ?_, S1, p1⟩
    have := g3 k n' (Nat.le_refl _)
    rwa [List.take_of_length_le (by rw [RR1.1, hl]; exact Nat.le_refl _)] at this
  have hl : new'.length = k * esz := by
    unfold Hp.append at hp2
    split at hp2
    · assumption
    · cases hp2
  obtain ⟨us, RU, hu1, hul, hlen, hfc, S1, p1⟩ := hsrcl hl
  have q1 := R1.pres p1
  have run0 : k = 0 → ∀ (ad : Option Addr) (len C : Nat), len ≤ C → (ad = none → len = 0 ∧ C = 0) →
      (Builtin.append_ #[t, u] ty #[.slice ad len C, y]).run P w = .ok (.slice ad len C) w := by
    intro hk ad len C hle hnone
    subst hk
    have hus : us = [] := List.eq_nil_of_length_eq_zero (by rw [hul]; simp)
    subst hus
    cases ad with
    | some ad =>
      have := run_append_in (w := w) (w' := w) (ty := ty) (sLen := len) (sCap := C) (a := ad) (us := []) hu hs T.src (hlen w) (hfc w.drawn) (by omega) (by simp [storeCells])
      simpa using this
    | none =>
      obtain ⟨rfl, rfl⟩ := hnone rfl
      have h2 := hfc w.drawn
      rcases src_inv T.src with ⟨e2, hd⟩ | hd <;>
      · simp only [Builtin.append_, List.getElem?_toArray, List.getElem?_cons_zero, List.getElem?_cons_succ, Sem.run_bind, run_underlying hu, Result.andThen_ok, tSize_run hs,
          run_underlying hd, Sem.run_pure]
        simp [hlen w, h2]
  obtain ⟨z, w', hrun, μ', S2, p2, rr⟩ := append_core (A := fun s => Builtin.append_ #[t, u] ty #[s, y]) (e := e) S1 T.pos q1 RU hu1 hul run0
    (fun hCk hst => run_append_in hu hs T.src (hlen w) (hfc w.drawn) hCk hst)
    (fun hold hcap hroom => run_append_grow hu hs hb T.bpos hz0 hone T.src (hlen w) hfc hold hcap hroom) hp2
  exact ⟨z, w', hrun, μ', S2, p1.trans p2, rr⟩
structure AppZT (P : Program) (t u : TypeId) (esz bytes : Nat) (zero : List Value) : Prop where
  e : ∃ e, P.underlying t = some (.slice e) ∧ tSize P e esz = true ∧ tBytes P e bytes = true ∧ tZero P e zero = true
  int : ∃ k, P.underlying u = some (.int k)
  pos : 0 < esz
  bpos : 0 < bytes
theorem zeroCells_eq (z : Array Value) (n : Nat) (hz : 0 < z.size) : Builtin.zeroCells z n = ((List.replicate n z.toList).flatten).toArray := by
  apply Array.toList_inj.1
  rw [← cyc_eq z n (n * z.size) rfl hz]
  rfl
theorem s_appendZ {base w0 μ} {h h' : Hp} (S : Sim fid base w0 w μ h.get) {t u ty site esz bytes zero x y a b r} (T : AppZT P t u esz bytes zero)
    (R1 : Rep fid w (Wr μ h.get) (info μ h.get) x a) (R2 : Rep fid w (Wr μ h.get) (info μ h.get) y b) (hp : prim h (.appendZ site esz bytes zero) [a, b] = some (r, h')) :
    ∃ z w', (Builtin.append_ #[t, u] ty #[x, y]).run P w = .ok z w' ∧ Post fid base w0 w μ h.get w' h'.get z r := by
  obtain ⟨e, hu, hs, hb, hz0⟩ := T.e
  obtain ⟨ik, hd⟩ := T.int
  obtain ⟨z, hz, hone, hrun⟩ := zero_run hz0
  simp only [prim] at hp
  obtain ⟨k, hk, hp1⟩ := Option.bind_eq_some_iff.1 hp
  split at hp1 <;> first | (cases hp1; done) | skip
  rename_i hcond
  obtain ⟨hroom, hzl⟩ := hcond
  obtain ⟨k1, rfl⟩ := natOf_inv hk
  have := R2.v_inv; subst this
  obtain ⟨i, hi, hib⟩ := tBytes_run hb
  have hzsz : z.cells.size = esz := by rw [← hzl, ← hz]; simp
  have hkr : k ≤ room := Nat.le_trans (Nat.le_mul_of_pos_right _ T.bpos) hroom
  have hw1 := wrap_small hkr
  have bpos := T.bpos
  have hbig : ¬ ((k : Int) * (bytes : Int) > 2 ^ 48) := by
    have h3 : ((k * bytes : Nat) : Int) = (k : Int) * (bytes : Int) := Int.natCast_mul _ _
    unfold room at hroom
    rw [← h3]; omega
  have hneg : ¬ ((k : Int) < 0) := by omega
  have hzc : ∀ n, Builtin.zeroCells z.cells n = ((List.replicate n zero).flatten).toArray := fun n => by rw [zeroCells_eq _ _ (by rw [hzsz]; exact T.pos), hz]
  have hus : ((List.replicate k zero).flatten).length = k * esz := by simp [hzl]
  have e0 : k * esz = 0 → (List.replicate k zero).flatten = [] := fun h => List.eq_nil_of_length_eq_zero (by rw [hus, h])
  have hfl : ∀ n, ∀ v ∈ (List.replicate n zero).flatten, v.oneCell' = true := fun n v hv => hone v (mem_flat hv)
  refine append_core (A := fun s => Builtin.append_ #[t, u] ty #[s, .int k1 k]) (e := e) (us := (List.replicate k zero).flatten) S T.pos R1 (flat_reps k) (hfl k) hus ?_ ?_ ?_ hp1
  · intro hk0 ad len C hle hnone
    subst hk0
    simp only [Builtin.append_, List.getElem?_toArray, List.getElem?_cons_zero, List.getElem?_cons_succ, Sem.run_bind, run_underlying hu, Result.andThen_ok, tSize_run hs,
      run_underlying hd, Sem.run_pure]
    simp only [asInt, asIntOf, Sem.run_bind, Sem.run_pure, Result.andThen_ok, hw1, if_true, if_neg hneg, typeInfo, run_program, hi, hib, if_neg hbig, Int.toNat_natCast, Nat.add_zero, if_pos hle, Nat.zero_mul]
    cases ad <;> simp [storeCells]
  · intro sLen sCap a w' hcap hst
    simp only [Builtin.append_, List.getElem?_toArray, List.getElem?_cons_zero, List.getElem?_cons_succ, Sem.run_bind, run_underlying hu, Result.andThen_ok, tSize_run hs,
      run_underlying hd, Sem.run_pure]
    simp only [asInt, asIntOf, Sem.run_bind, Sem.run_pure, Result.andThen_ok, hw1, if_true, if_neg hneg, typeInfo, run_program, hi, hib, if_neg hbig, Int.toNat_natCast, Nat.add_zero, if_pos hcap]
    by_cases h0 : k * esz = 0
    · rw [e0 h0] at hst
      simp [h0, hst]
    · simp [h0, hrun, hzc, hst]
  · intro base sLen sCap os hold hcap hroom
    have hcut : ∃ C, (Question.appendCap (sLen + k) sCap e).cut (w.tape w.drawn (.appendCap (sLen + k) sCap e)) = C ∧ sLen + k ≤ C := ⟨_, rfl, by simp [Question.cut]⟩
    obtain ⟨C, hC, hCle⟩ := hcut
    refine ⟨C, (List.replicate (C - (sLen + k)) zero).flatten, hCle, by simp [hzl], hfl _, ?_⟩
    have hsk : sLen + k ≤ room := Nat.le_trans (Nat.le_mul_of_pos_right _ T.bpos) hroom
    have hmx : ¬ (((sLen + k : Nat) : Int) > IntKind.i64.max ∧ ((true = true) ∨ bytes = 0)) := by
      rintro ⟨h, _⟩
      unfold room at hsk
      simp [IntKind.max, IntKind.bits, IntKind.signed] at h
      omega
    have hnr : ¬ (Builtin.nextslicecap (sLen + k) sCap * bytes > 2 ^ 48) := by
      have h1 := nextslicecap_le hcap
      have h2 : Builtin.nextslicecap (sLen + k) sCap * bytes ≤ 2 * (sLen + k) * bytes := Nat.mul_le_mul_right _ h1
      have h3 : 2 * (sLen + k) * bytes = 2 * ((sLen + k) * bytes) := Nat.mul_assoc _ _ _
      unfold room at hroom
      omega
    have hn : ¬ sLen + k ≤ sCap := by omega
    have h1 := hold (w.drawn + 1)
    simp only [Builtin.append_, List.getElem?_toArray, List.getElem?_cons_zero, List.getElem?_cons_succ, Sem.run_bind, run_underlying hu, Result.andThen_ok, tSize_run hs,
      run_underlying hd, Sem.run_pure]
    simp only [asInt, asIntOf, Sem.run_bind, Sem.run_pure, Result.andThen_ok, hw1, if_true, if_neg hneg, typeInfo, run_program, hi, hib, if_neg hbig, Int.toNat_natCast, Nat.add_zero, if_neg hn]
    rw [if_neg (by simpa using hmx)]
    simp only [Sem.run_bind, run_program, Result.andThen_ok, hi, Sem.run_pure, hib, if_neg hnr]
    simp only [run_choose, Question.forced, Bool.false_eq_true, if_false, hC, Result.andThen_ok, run_askRoom, h1, Bool.not_true, if_true]
    by_cases h0 : k * esz = 0
    · rw [e0 h0]
      simp [h0, hrun, hzc, newRow]
      rfl
    · simp [h0, hrun, hzc, newRow]
      rfl
end
end Go.AM
namespace Go.AM
open Go.RowKit
variable {fid : String → Option FuncId} {P : Program}
section
variable {w : World}
theorem s_copy {base w0 μ} {h h' : Hp} (S : Sim fid base w0 w μ h.get) {t u ty esz x y a b r} (ht : tSlice P t esz = true)
    (R1 : Rep fid w (Wr μ h.get) (info μ h.get) x a) (R2 : Rep fid w (Wr μ h.get) (info μ h.get) y b) (hp : prim h (.copy esz) [a, b] = some (r, h')) (hsrcT : srcType P u = true) :
    ∃ z w', (Builtin.copy_ #[t, u] ty #[x, y]).run P w = .ok z w' ∧ Post fid base w0 w μ h.get w' h'.get z r := by
  unfold tSlice at ht
  split at ht <;> first | cases ht; done | skip
  rename_i e hu
  simp only [prim] at hp
  obtain ⟨m, hm, hp1⟩ := Option.bind_eq_some_iff.1 hp
  obtain ⟨⟨k, src⟩, hsrc, hp2⟩ := Option.bind_eq_some_iff.1 hp1
  simp only at hp2
  split at hp2 <;> first | (cases hp2; done) | skip
  rename_i hlen0
  obtain ⟨h1, hc, he⟩ := Option.map_eq_some_iff.1 hp2
  cases he
  obtain ⟨us, RU, hu1, hlen, hfc⟩ := source_sound (P := P) (u := u) S R2 hsrc esz hlen0 hsrcT
  obtain ⟨ad, C, rfl⟩ := s_lenOf (P := P) (t := t) (by simp [hu]) R1 hm
  have hfc' := hfc (Nat.min k m) w.drawn (Nat.min_le_left _ _)
  have run : ∀ w', (ad = none → w' = w) → (∀ ad', ad = some ad' → (storeCells ad' (us.take (Nat.min k m * esz))).run P w = .ok () w') →
      (Builtin.copy_ #[t, u] ty #[.slice ad m C, y]).run P w = .ok (goInt (Nat.min k m)) w' := by
    intro w' h1 h2
    simp only [Builtin.copy_, List.getElem?_toArray, List.getElem?_cons_zero, List.getElem?_cons_succ, Sem.run_bind, run_underlying hu, Result.andThen_ok, hlen w, tSize_run ht, hfc']
    cases ad with
    | none => simp [h1 rfl]
    | some ad' => simp [h2 ad' rfl]
  unfold Hp.copyInto at hc
  split at hc
  · rename_i hk
    cases hc
    refine ⟨_, w, run w (fun _ => rfl) (fun ad' _ => by rw [hk]; simp [storeCells]), μ, S, .refl _ _ _, .v _⟩
  · rename_i hk
    cases a <;> first | (simp only [reduceCtorEq] at hc; done) | skip
    rename_i ℓ n off len esz' cap
    simp only at hc
    cases hb : h.get ℓ with
    | none => simp [hb] at hc
    | some B =>
      simp only [hb] at hc
      split at hc <;> cases hc
      rename_i hcond
      obtain ⟨hBn, hwr, he', hkl, hle, hok⟩ := hcond
      subst he'
      have hml : len = m := by
        simp only [lenOf, Option.some.injEq] at hm; exact hm
      subst hml
      have ok := R1.own_inv S hb hBn
      unfold OwnOK at ok
      split at ok
      · obtain ⟨_, _, h0⟩ := ok
        exact absurd (Nat.le_zero.1 (Nat.le_trans hkl (Nat.le_of_eq h0))) hk
      · rename_i hv
        obtain ⟨a2, C2, g1, g2, g3, g4, g5, g6, g7⟩ := ok
        cases g1
        have hke : Nat.min k len * esz' ≤ len * esz' := Nat.mul_le_mul_right _ hkl
        have hkk : Nat.min k len * esz' ≤ k * esz' := Nat.mul_le_mul_right _ (Nat.min_le_left _ _)
        have ha : a2 = ⟨(μ ℓ).1, off, none⟩ := g3.resolve_left (by omega)
        subst ha
        obtain ⟨w', hst, S', p'⟩ := put_lay S hb hwr (by simpa using hv) (RU.take (Nat.min k len * esz')) (fun v hv => hu1 v (List.mem_of_mem_take hv)) (off := off)
          (by rw [List.length_take, hlen0]; exact Nat.le_trans (Nat.add_le_add_left (Nat.min_le_left _ _) off) (Nat.le_trans (Nat.add_le_add_left hke off) (by omega)))
        exact ⟨_, w', run w' (fun h => by cases h) (fun ad' h => by cases h; exact hst P), μ, S', p', .v _⟩
theorem s_bytesBytes {base w0 μ} {h h' : Hp} (S : Sim fid base w0 w μ h.get) {d x a r} (ht : tByteSlice P d = true)
    (R : Rep fid w (Wr μ h.get) (info μ h.get) x a) (hp : prim h .bytesBytes [a] = some (r, h')) :
    ∃ z w', (convert d d x).run P w = .ok z w' ∧ Post fid base w0 w μ h.get w' h'.get z r := by
  obtain ⟨e, hu, hs1, he⟩ := tByteSlice_inv ht
  cases a <;> first | (simp only [prim, reduceCtorEq] at hp; done) | skip
  rename_i ℓ n off len esz cap
  simp only [prim] at hp
  cases hb : h.get ℓ with
  | none => simp [hb] at hp
  | some B =>
    simp only [hb] at hp
    split at hp <;> cases hp
    rename_i hc
    obtain ⟨hBn, hv, hlen, hwr, hpl⟩ := hc
    have ok := R.own_inv S hb hBn
    unfold OwnOK at ok
    rw [if_neg (by simp [hv])] at ok
    obtain ⟨a2, C2, rfl, g2, g3, g4, g5, g6, g7⟩ := ok
    simp only at g3 g4 g5 g6 g7
    have hconv : (convert d d (.slice (some a2) len C2)).run P w = (do markStringish a2; pure (.slice (some a2) len C2) : Sem Value).run P w := by
      simp [convert, run_underlying hu, run_underlying he]
    rw [hconv]
    obtain ⟨c, e0, lo, hi, k1, k2, k3, k4, k5, k6, k7⟩ := S.row hb hv
    have hlt : (μ ℓ).1 < w.heap.size := (S.ok.blk ℓ B hb).lt hv
    have mk : ∀ a : Addr, a.block = (μ ℓ).1 → ∃ w' lo' hi', (markStringish a).run P w = .ok () w' ∧ w' = setBlk w (μ ℓ).1 (.cells c e0 (lo', hi')) ∧ (lo' = hi' ∨ (c.size ≤ lo' ∧ B.plain = false)) := by
      intro a ha
      have hsh : w.shape? (μ ℓ).1 = some (e0, c.size) := by simp [World.shape?, k1]
      refine ⟨w.freeze ⟨(μ ℓ).1, c.size, none⟩ 1, (if lo == hi then c.size else min lo c.size), (if lo == hi then c.size + 1 else max hi (c.size + 1)), by simp only [markStringish, Sem.run_bind, run_shape, ha, hsh, Result.andThen_ok, run_freeze], ?_, ?_⟩
      · simp only [World.freeze, setBlk, Nat.one_ne_zero, if_false]
        congr 1
        apply Array.ext_getElem?
        intro j
        rw [Array.getElem?_modify, Array.getElem?_setIfInBounds]
        by_cases hj : (μ ℓ).1 = j
        · subst hj
          rw [if_pos rfl, if_pos rfl, if_pos hlt, k1]
          simp only [Option.map_some]
          split <;> simp_all
        · simp [hj]
      · by_cases hlh : lo = hi
        · subst hlh; simp [hpl]
        · have : (lo == hi) = false := by simpa using hlh
          rw [this]
          simp only [Bool.false_eq_true, if_false]
          right
          refine ⟨?_, hpl⟩
          rcases k3 with k3 | k3
          · exact absurd k3 hlh
          · have := k3.1; omega
    have ha : a2 = ⟨(μ ℓ).1, off, none⟩ := g3.resolve_left (by omega)
    subst ha
    obtain ⟨w', lo', hi', hrun, hw', hfr⟩ := mk ⟨(μ ℓ).1, off, none⟩ rfl
    have hsame : ∀ k, k ≠ (μ ℓ).1 → w'.heap[k]? = w.heap[k]? := fun k hk => by rw [hw']; simp [setBlk, Ne.symm hk]
    have hatB : w'.heap[(μ ℓ).1]? = some (.cells c e0 (lo', hi')) := by rw [hw']; simp [setBlk, hlt]
    obtain ⟨S', p, hi2⟩ := sim_put S (B' := B) hb hwr w' (μ ℓ).1 c e0 lo' hi' hatB (fun k _ hne => hsame k hne) (by rw [hw']; simp [setBlk]) (by rw [hw']; rfl) (by rw [hw']; rfl) (by rw [hw']; rfl)
        (.inl ⟨hv, rfl⟩) hfr hv k4 k5 (.inl ⟨rfl, hv, by rw [k2]⟩) k6 ((S.ok.blk ℓ B hb).data) k7
    have hself : (h.put ℓ (some B)).get = h.get := by rw [put_get hb]; exact upd_self _ _ _ hb
    rw [hself, upd_self μ ℓ _ (by rw [k2])] at S' p
    exact ⟨_, w', by simp [hrun], μ, S', p, R.pres p⟩
theorem row_plain {base w0 μ} {h h' : Hp} (S : Sim fid base w0 w μ h.get) {site : Nat} {cs : List AV} (hn : h.new site { newBlk cs with plain := true } = some h') (e : TypeId) (c : Array Value)
    (R : Reps fid w (Wr μ h.get) (info μ h.get) c.toList cs) (h1 : ∀ x ∈ c, x.oneCell' = true) :
    ∃ μ', Sim fid base w0 { w with heap := w.heap.push (.cells c e) } μ' h'.get ∧
      Pres w (Wr μ h.get) (info μ h.get) { w with heap := w.heap.push (.cells c e) } (Wr μ' h'.get) (info μ' h'.get) ∧
      info μ' h'.get (.l site) = some ⟨w.heap.size, cs.length, false, c.size⟩ := by
  have hsz : cs.length = c.size := by rw [← R.1]; simp
  obtain ⟨S', p, hi⟩ := sim_new S hn { w with heap := w.heap.push (.cells c e) } c e 0 0 rfl rfl rfl rfl (.inl rfl) rfl (by simp [newBlk, hsz]) (fun _ => by simp [newBlk, hsz]) h1
    (fun h => h) (fun i a ha => by
      have hi : i < c.toList.length := by
        rw [R.1]
        by_cases hi : i < cs.length
        · exact hi
        · simp only [newBlk] at ha; rw [List.getElem?_eq_none (by omega)] at ha; cases ha
      refine ⟨c.toList[i], by simp at hi; simp [hi], R.2 i _ a (List.getElem?_eq_getElem hi) ha⟩)
  exact ⟨_, S', p, by simpa [newBlk] using hi⟩
theorem s_buildPlain {base w0 μ} {h h' : Hp} (S : Sim fid base w0 w μ h.get) {t site esz len zero qs} {parts : Array (Nat × Operand)} {ρ : Operand → Value} {as r}
    (ht : ∃ e, P.underlying t = some (.slice e) ∧ tSize P e esz = true ∧ tZero P e zero = true ∧ placesOK (fun i => some (i * esz, esz)) parts.toList qs = true)
    (hzl : zero.length = esz) (hsmall : len * esz ≤ 16777216)
    (R : Reps fid w (Wr μ h.get) (info μ h.get) ((parts.toList.map (·.2)).map ρ) as) (hp : prim h (.buildPlain site esz len zero qs) as = some (r, h')) :
    ∃ y w', (Instr.buildSlice t len (parts.map fun (i, x) => (i, ρ x))).run P w = .ok y w' ∧ Post fid base w0 w μ h.get w' h'.get y r := by
  obtain ⟨e, hu, hs, hz, hpl⟩ := ht
  obtain ⟨z, hzc, hone, hrun⟩ := zero_run hz
  simp only [prim] at hp
  obtain ⟨cs, hf, hp2⟩ := Option.bind_eq_some_iff.1 hp
  split at hp2 <;> first | (cases hp2; done) | skip
  rename_i hcl
  obtain ⟨h2, hn, he⟩ := Option.map_eq_some_iff.1 hp2
  cases he
  have hzsz : z.cells.size = esz := by rw [← hzl, ← hzc]; simp
  have R' : Reps fid w (Wr μ h.get) (info μ h.get) ((parts.toList.map fun p => (p.1, ρ p.2)).map (·.2)) as := by
    have e : ((parts.toList.map fun p => (p.1, ρ p.2)).map (·.2)) = ((parts.toList.map (·.2)).map ρ) := by simp
    rw [e]; exact R
  have hparts : (parts.map fun (i, x) => (i, ρ x)).toList = parts.toList.map fun p => (p.1, ρ p.2) := by simp
  obtain ⟨zc, hzc2, hz0, hz1⟩ : ∃ zc : Array Value, zc.toList = (List.replicate len zero).flatten ∧ (len * esz = 0 → zc = #[]) ∧
      (len * esz ≠ 0 → zc = (Array.range (len * esz)).map (fun i => z.cells[i % z.cells.size]!)) := by
    by_cases h0 : len * esz = 0
    · refine ⟨#[], ?_, fun _ => rfl, fun h => absurd h0 h⟩
      have : ((List.replicate len zero).flatten).length = 0 := by simp [hzl, h0]
      rw [List.eq_nil_of_length_eq_zero this]
    · refine ⟨(Array.range (len * esz)).map (fun i => z.cells[i % z.cells.size]!), ?_, fun h => absurd h h0, fun _ => rfl⟩
      rw [cyc_eq z.cells len (len * esz) (by rw [hzsz]) (by
          rw [hzsz]
          rcases Nat.eq_zero_or_pos esz with h | h
          · subst h; simp at h0
          · exact h), hzc]
  have hone' : ∀ x ∈ zc, x.oneCell' = true := fun x hx => hone x (mem_flat (by rw [← hzc2]; exact Array.mem_toList_iff.2 hx))
  obtain ⟨g1, g2⟩ := places_inv hpl
  obtain ⟨c', hf', Rc, hc1⟩ := fills_sound (c := zc) (cells := (List.replicate len (zero.map AV.v)).flatten) (fun i => some (i * esz, esz)) (by rw [hzc2]; exact flat_reps len) R' (parts_get (ρ := ρ) (place := fun i => some (i * esz, esz)) g2) (by simp [g1]) hf hone'
  obtain ⟨μ', S', p, hi⟩ := row_plain S hn e c' Rc hc1
  have hcs : c'.size = len * esz := by rw [← hcl, ← Rc.1]; simp
  refine ⟨.slice (some ⟨w.heap.size, 0, none⟩) len len, _, ?_, μ', S', p, .own hi (by rw [hcl]; exact Nat.le_refl _) (fun _ => ?_) ⟨_, _, rfl, Nat.le_refl _, fun h => (by cases h), fun c hc => (by cases hc; rfl)⟩⟩
  · simp only [Instr.buildSlice, Sem.run_bind, run_underlying hu, Result.andThen_ok, tSize_run hs]
    rw [if_neg (by simp; omega)]
    by_cases h0 : len * esz = 0
    · have e0 : Array.range 0 = #[] := Array.eq_empty_of_size_eq_zero (by simp)
      rw [hz0 h0] at hf'
      simp only [h0, if_true, Sem.run_bind, Sem.run_pure, Result.andThen_ok, e0, Array.map_empty]
      rw [hparts, hf']
      simp [newRow]
    · rw [hz1 h0] at hf'
      simp only [h0, if_false, Sem.run_bind, Sem.run_pure, hrun, Result.andThen_ok]
      rw [hparts, hf']
      simp [newRow]
  · unfold OwnOK
    rw [if_neg (by simp)]
    exact ⟨_, _, rfl, Nat.le_refl _, .inr rfl, by simp [hcs], fun c hc => (by cases hc; exact ⟨rfl, by simp [hcl]⟩), fun h => (by cases h), by simp [hcl]⟩
theorem s_buildF {base w0 μ} {h h' : Hp} (S : Sim fid base w0 w μ h.get) {t zero qs} {parts : Array (Nat × Operand)} {ρ : Operand → Value} {as r} (hz : tZero P t zero = true) (hq : tPlaces P t parts.toList qs = true)
    (R : Reps fid w (Wr μ h.get) (info μ h.get) ((parts.toList.map (·.2)).map ρ) as) (hp : prim h (.buildF zero qs) as = some (r, h')) :
    ∃ y w', (Instr.build t (parts.map fun (i, x) => (i, ρ x))).run P w = .ok y w' ∧ Post fid base w0 w μ h.get w' h'.get y r := by
  simp only [prim] at hp
  obtain ⟨⟨as', h1⟩, hfz, hp1⟩ := Option.bind_eq_some_iff.1 hp
  obtain ⟨cs, hf, he⟩ := Option.map_eq_some_iff.1 hp1
  cases he
  obtain ⟨S1, p1, R1⟩ := freezes_sound S R hfz
  have hpb : prim h1 (.build zero qs) as' = some (.agg cs, h1) := by simp only [prim, hf, Option.map_some]
  obtain ⟨_, y, hy, r⟩ := s_build hz hq R1 hpb
  exact ⟨y, w, hy, μ, S1, p1, r⟩
theorem s_eqPtr {base w0 μ} {h h' : Hp} (S : Sim fid base w0 w μ h.get) {t neg ox oy x y a b r} (ht : tPtr P t = true)
    (R1 : Rep fid w (Wr μ h.get) (info μ h.get) x a) (R2 : Rep fid w (Wr μ h.get) (info μ h.get) y b) (hp : prim h (.eqPtr neg) [a, b] = some (r, h')) :
    h' = h ∧ ∃ z, (do eqGuard (if neg then .neq else .eql) t ox oy x y; binOp (if neg then .neq else .eql) t x y : Sem Value).run P w = .ok z w ∧
      Rep fid w (Wr μ h.get) (info μ h.get) z r := by
  cases a <;> first | (simp only [prim, reduceCtorEq] at hp; done) | skip
  cases b <;> first | (simp only [prim, reduceCtorEq] at hp; done) | skip
  rename_i ℓ n off ℓ' n' off'
  simp only [prim] at hp
  cases hb : h.get ℓ with
  | none => simp [hb] at hp
  | some B =>
    simp only [hb] at hp
    split at hp <;> cases hp
    rename_i hc
    obtain ⟨rfl, rfl, hn⟩ := hc
    obtain ⟨_, rfl⟩ := R1.ptr_inv S hb hn
    obtain ⟨_, rfl⟩ := R2.ptr_inv S hb hn
    refine ⟨rfl, .bool ((off == off') != neg), ?_, .v _⟩
    unfold tPtr at ht
    split at ht <;> first | (cases ht; done) | skip
    rename_i e hu
    split at ht <;> first | (cases ht; done) | skip
    rename_i i hi
    have hsz : (sizeOf e).run P w = .ok i.size w := by simp [sizeOf, typeInfo, hi]
    have hi0 : i.size ≠ 0 := by simpa using ht
    have key : ∀ d, (Op.equalIn (d + 1) t (.pointer (some ⟨(μ ℓ).1, off, none⟩)) (.pointer (some ⟨(μ ℓ).1, off', none⟩))).run P w = .ok (off == off') w := by
      intro d
      have e1 : ((⟨(μ ℓ).1, off, none⟩ : Addr) == ⟨(μ ℓ).1, off', none⟩) = (off == off') := by
        rw [Bool.eq_iff_iff]; simp
      simp [Op.equalIn, underlying, hu, sameAddr, e1, hsz, hi0]
    have he : (Op.equal t (.pointer (some ⟨(μ ℓ).1, off, none⟩)) (.pointer (some ⟨(μ ℓ).1, off', none⟩))).run P w = .ok (off == off') w := key 9999
    refine eq_run (by cases neg <;> simp [eqGuard]) ?_ ?_ he
    · rfl
    · rfl
theorem overlaps_find {fn : Func} (h1 : fn.name = "slices.overlaps[haberdash/api.Seen]") (h2 : fn.origin = "slices.overlaps") :
    Extern.find fn = some (Extern.SlicesOverlaps.overlaps fn.params fn.resultTypes) ∧ Extern.findNext fn = none := by
  constructor
  · unfold Extern.find
    rw [h1, h2]
    kernel_rfl
  · unfold Extern.findNext
    rw [h1, h2]
    kernel_rfl
theorem run_apart (ps rs : Array TypeId) (tS e : TypeId) (hps : ps[0]? = some tS) (ht : P.underlying tS = some (.slice e)) (size : Nat) (hz : ∀ w, (Go.sizeOf e).run P w = .ok size w)
    (a b : Addr) (la ca lb cb : Nat) (hne : a.block ≠ b.block) (tA tB : TypeId) (kA kB : Nat)
    (hsa : w.shape? a.block = some (tA, kA)) (hsb : w.shape? b.block = some (tB, kB)) (hkB : kB ≠ 0)
    (hfa : w.frozen? a = false) (hfe : w.frozen? { block := a.block, off := kA } = false) :
    (Extern.SlicesOverlaps.overlaps ps rs #[.slice (some a) la ca, .slice (some b) lb cb]).run P w = .ok (.bool false) w := by
  have n1 : (a.block != b.block) = true := by simpa using hne
  have n2 : (a.block == b.block) = false := by simpa using hne
  change Sem.run P (α := Value) (do
    let some t := ps[0]? | stuck "slices.overlaps: no parameter types"
    let .slice elem ← underlying t | stuck "slices.overlaps: slice type expected"
    let size ← sizeOf elem
    match (some a : Option Addr), (some b : Option Addr) with
    | some a, some b =>
      if la = 0 ∨ lb = 0 ∨ size = 0 then pure (Value.bool false)
      else if a.block != b.block && (← frozen a) && (← frozen b) then unsupported .addressObserved
      else do
        if a.block != b.block then do
          noView a; noView b
          if ← mayBeOne a b then return Value.bool ((← choose (.extern "sameAddr.stringBytes" 2)) == 1)
        pure (Value.bool (a.block == b.block && a.off < b.off + lb * size && b.off < a.off + la * size))
    | _, _ => pure (Value.bool false)) w = _
  by_cases h0 : la = 0 ∨ lb = 0 ∨ size = 0
  · simp [hps, run_underlying ht, hz, h0]
  · obtain ⟨k, rfl⟩ : ∃ k, kB = k + 1 := ⟨kB - 1, by omega⟩
    simp [hps, run_underlying ht, hz, h0, n1, n2, frozen, noView, viewAt, mayBeOne, stringish, shape, Sem.run, hsa, hsb, hfa, hfe]
theorem s_overlaps {base w0 μ} {h h' : Hp} (S : Sim fid base w0 w μ h.get) {c : Callee} {xs : List Value} {as r} (hc : tOverlaps P c = true)
    (R : Reps fid w (Wr μ h.get) (info μ h.get) xs as) (hp : prim h .overlaps as = some (r, h')) :
    h' = h ∧ ∃ g y, c = .value (.func g) ∧ (callFunc g xs.toArray).run P w = .ok (.value y) w ∧ Rep fid w (Wr μ h.get) (info μ h.get) y r := by
  simp only [prim] at hp
  split at hp <;> first | (cases hp; done) | skip
  rename_i ℓ n off len esz cap ℓ' n' off' len' esz' cap'
  cases hb : h.get ℓ with
  | none => simp [hb] at hp
  | some B =>
  cases hb' : h.get ℓ' with
  | none => simp [hb, hb'] at hp
  | some B' =>
  simp only [hb, hb'] at hp
  split at hp <;> cases hp
  rename_i hk
  obtain ⟨hne, k1, k2, k3, k4, k5, k6, k7, k8, k9⟩ := hk
  obtain ⟨x, xs', rfl, R1, Rs⟩ := R.cons_inv
  obtain ⟨y, xs'', rfl, R2, Rs2⟩ := Rs.cons_inv
  have := Rs2.nil_inv; subst this
  have ok := R1.own_inv S hb k1
  have ok' := R2.own_inv S hb' k2
  unfold OwnOK at ok ok'
  rw [if_neg (by simp [k4])] at ok
  rw [if_neg (by simp [k5])] at ok'
  obtain ⟨a, C, rfl, g2, g3, g4, g5, g6, g7⟩ := ok
  obtain ⟨a', C', rfl, f2, f3, f4, f5, f6, f7⟩ := ok'
  simp only at g3 g4 g7 f3 f4 f7
  have ha := g3.resolve_left (by omega)
  have ha' := f3.resolve_left (by omega)
  subst ha ha'
  obtain ⟨c1, e1, lo, hi, m1, m2, m3, m4, _⟩ := S.row hb k4
  obtain ⟨c2, e2, lo', hi', j1, j2, j3, j4, _⟩ := S.row hb' k5
  have hlo : lo = hi := by
    rcases m3 with m3 | m3
    · exact m3
    · rw [k3] at m3; cases m3.2
  unfold tOverlaps at hc
  split at hc <;> first | (cases hc; done) | skip
  rename_i g
  split at hc <;> first | (cases hc; done) | skip
  rename_i fn hfn
  simp only [Bool.and_eq_true, beq_iff_eq] at hc
  obtain ⟨⟨⟨q1, q2⟩, q3⟩, q4⟩ := hc
  split at q4 <;> first | (cases q4; done) | skip
  rename_i t ht
  split at q4 <;> first | (cases q4; done) | skip
  rename_i e hu
  obtain ⟨i, hi0⟩ := Option.isSome_iff_exists.1 q4
  obtain ⟨hf1, hf2⟩ := overlaps_find q2 q3
  refine ⟨rfl, g, .bool false, rfl, ?_, .v _⟩
  rw [Go.run_callFunc_extern hfn (by rw [q2]; decide) q1 hf2 hf1]
  have hes : 0 < len * esz := Nat.mul_pos k6 k8
  have hes' : 0 < len' * esz' := Nat.mul_pos k7 k9
  have hblk : (μ ℓ).1 ≠ (μ ℓ').1 := fun e => hne (S.ok.inj ℓ ℓ' B B' hb hb' k4 k5 e)
  have hover := run_apart (P := P) (w := w) fn.params fn.resultTypes t e ht hu i.size (fun w => by simp [sizeOf, typeInfo, hi0]) ⟨(μ ℓ).1, off, none⟩ ⟨(μ ℓ').1, off', none⟩ len C len' C' hblk e1 e2 c1.size c2.size
    (by simp [World.shape?, m1]) (by simp [World.shape?, j1]) (by omega) (by simp [World.frozen?, m1]; omega) (by simp [World.frozen?, m1]; omega)
  show ((Extern.SlicesOverlaps.overlaps fn.params fn.resultTypes #[_, _]).run P w).andThen _ = _
  rw [hover]
  rfl
end
end Go.AM
namespace Go.AM
open Go.RowKit
variable {fid : String → Option FuncId} {P : Program}
section
variable {w : World} {W : Nat → Prop} {M : Lab → Option LInfo}
theorem Reps.one {x as} (R : Reps fid w W M [x] as) : ∃ a, as = [a] ∧ Rep fid w W M x a := by
  cases as with
  | nil => exact absurd R.1 (by simp)
  | cons a as =>
    cases as with
    | nil => exact ⟨a, rfl, R.head⟩
    | cons b bs => exact absurd R.1 (by simp)
theorem Reps.two {x y as} (R : Reps fid w W M [x, y] as) : ∃ a b, as = [a, b] ∧ Rep fid w W M x a ∧ Rep fid w W M y b := by
  cases as with
  | nil => exact absurd R.1 (by simp)
  | cons a as => obtain ⟨b, rfl, rb⟩ := R.tail.one; exact ⟨a, b, rfl, R.head, rb⟩
theorem Reps.three {x y z as} (R : Reps fid w W M [x, y, z] as) : ∃ a b c, as = [a, b, c] ∧ Rep fid w W M x a ∧ Rep fid w W M y b ∧ Rep fid w W M z c := by
  cases as with
  | nil => exact absurd R.1 (by simp)
  | cons a as => obtain ⟨b, c, rfl, rb, rc⟩ := R.tail.two; exact ⟨a, b, c, rfl, R.head, rb, rc⟩
theorem Reps.head_inv {x xs as} (R : Reps fid w W M (x :: xs) as) : ∃ a as', as = a :: as' ∧ Rep fid w W M x a ∧ Reps fid w W M xs as' := by
  cases as with
  | nil => exact absurd R.1 (by simp)
  | cons a as => exact ⟨a, as, rfl, R.head, R.tail⟩
theorem s_makeFunc {f id k} {xs ys : List Value} {as r} (hf : fid f = some id) (hk : xs.length = k) (R : Reps fid w W M (xs ++ ys) as) {h h' : Hp} (hp : prim h (.makeFunc f k) as = some (r, h')) :
    h' = h ∧ Rep fid w W M (.func (.func id) xs.toArray ys.toArray) r := by
  simp only [prim] at hp
  split at hp <;> cases hp
  refine ⟨rfl, ?_⟩
  have R1 := R.take k
  have R2 := R.drop k
  subst hk
  rw [List.take_left' rfl] at R1
  rw [List.drop_left' rfl] at R2
  exact .fn hf R1.1 R1.2 R2.1 R2.2
def Ran (P : Program) (ρ : Operand → Value) (o : Op) (ty : TypeId) (w w' : World) (y : Value) : Prop :=
  ∀ dst pos after guard, (execOp ρ ⟨dst, o, ty, pos, after, guard⟩).run P w = .ok (.value y) w' ∨ ((execOp ρ ⟨dst, o, ty, pos, after, guard⟩).run P w = .ok .skip w' ∧ y = undef)
end
theorem prim_sound {base w0 w μ} {h h' : Hp} {a : Act} {env : List AV} {o : Op} {ty : TypeId} {p : Prim} {xs : List Opd} {r : AV} (S : Sim fid base w0 w μ h.get)
    (E : Reps fid w (Wr μ h.get) (info μ h.get) a.tmps.toList env) (hc : chkOp P fid o p xs = true) (hp : prim h p (xs.map (evalO env)) = some (r, h')) :
    ∃ y w', Ran P a.eval o ty w w' y ∧ Post fid base w0 w μ h.get w' h'.get y r := by
  have pure1 : ∀ {y : Value}, h' = h → (∀ dst pos after guard, (execOp a.eval ⟨dst, o, ty, pos, after, guard⟩).run P w = .ok (.value y) w) →
      Rep fid w (Wr μ h.get) (info μ h.get) y r → ∃ y w', Ran P a.eval o ty w w' y ∧ Post fid base w0 w μ h.get w' h'.get y r := by
    intro y he hrun hr
    subst he
    exact ⟨y, w, fun d q f g => .inl (hrun d q f g), .same S hr⟩
  have st1 : ∀ {s : Sem Value}, (∀ dst pos after guard, execOp a.eval ⟨dst, o, ty, pos, after, guard⟩ = (do pure (.value (← s)))) →
      (∃ y w', s.run P w = .ok y w' ∧ Post fid base w0 w μ h.get w' h'.get y r) → ∃ y w', Ran P a.eval o ty w w' y ∧ Post fid base w0 w μ h.get w' h'.get y r := by
    rintro s he ⟨y, w', hrun, hpost⟩
    exact ⟨y, w', fun d q f g => .inl (by rw [he]; simp [hrun]), hpost⟩
  have p1 : ∀ {s : Sem Value}, (∀ dst pos after guard, execOp a.eval ⟨dst, o, ty, pos, after, guard⟩ = (do pure (.value (← s)))) →
      (h' = h ∧ ∃ y, s.run P w = .ok y w ∧ Rep fid w (Wr μ h.get) (info μ h.get) y r) → ∃ y w', Ran P a.eval o ty w w' y ∧ Post fid base w0 w μ h.get w' h'.get y r := by
    rintro s he ⟨rfl, y, hrun, hr⟩
    exact st1 he ⟨y, w, hrun, .same S hr⟩
  unfold chkOp at hc
  split at hc <;> (try simp only [Bool.and_eq_true] at hc)
  · -- move
    rename_i x
    obtain ⟨b, hb, R⟩ := (opds_sound E hc).one
    rw [hb] at hp; cases hp
    exact pure1 rfl (fun _ _ _ _ => rfl) R
  · rename_i x
    obtain ⟨b, hb, R⟩ := (opds_sound E hc).one
    rw [hb] at hp; cases hp
    exact pure1 rfl (fun _ _ _ _ => rfl) R
  · rename_i x site esz
    obtain ⟨b, hb, R⟩ := (opds_sound E hc).one
    rw [hb] at hp
    exact ⟨_, w, fun _ _ _ _ => .inl rfl, s_nilv S R hp⟩
  · rename_i x site esz
    obtain ⟨b, hb, R⟩ := (opds_sound E hc).one
    rw [hb] at hp
    exact ⟨_, w, fun _ _ _ _ => .inl rfl, s_nilv S R hp⟩
  · -- pick
    obtain ⟨b1, b2, b3, hb, R1, R2, R3⟩ := (opds_sound E hc).three
    rw [hb] at hp
    obtain ⟨he, v, hrun, hr⟩ := s_pick (P := P) R1 R2 R3 hp
    exact pure1 he (fun _ _ _ _ => hrun) hr
  · -- alloc
    have hx := (opds_sound E hc.2)
    have hnil : xs.map (evalO env) = [] := by
      have := hx.1
      simp only [List.map_nil, List.length_nil] at this
      exact List.eq_nil_of_length_eq_zero this.symm
    rw [hnil] at hp
    exact st1 (fun _ _ _ _ => rfl) (s_alloc S hc.1 hp)
  · -- box
    obtain ⟨b, hb, R⟩ := (opds_sound E hc).one
    rw [hb] at hp
    exact st1 (fun _ _ _ _ => rfl) (s_box S R hp)
  · -- boxK
    obtain ⟨b, hb, R⟩ := (opds_sound E hc).one
    rw [hb] at hp
    exact st1 (fun _ _ _ _ => rfl) (s_boxK S R hp)
  · -- build
    exact p1 (fun _ _ _ _ => rfl) (s_build hc.1.1 hc.1.2 (opds_sound E hc.2) hp)
  · -- buildSlice
    rename_i t len parts site frz esz len' zero qs
    obtain ⟨⟨⟨⟨ht, hl⟩, hz⟩, hs⟩, hx⟩ := hc
    simp only [beq_iff_eq] at hl hz
    simp only [decide_eq_true_eq] at hs
    subst hl
    split at ht <;> first | (cases ht; done) | skip
    rename_i e hu
    simp only [Bool.and_eq_true] at ht
    exact st1 (fun _ _ _ _ => rfl) (s_buildSlice S ⟨e, hu, ht.1.1, ht.1.2, ht.2⟩ hz hs (opds_sound E hx) hp)
  · -- load
    obtain ⟨b, hb, R⟩ := (opds_sound E hc.2).one
    rw [hb] at hp
    exact p1 (fun _ _ _ _ => rfl) (s_load S hc.1.1 hc.1.2 R hp)
  · -- loadAt
    obtain ⟨b, hb, R⟩ := (opds_sound E hc.2).one
    rw [hb] at hp
    exact p1 (fun _ _ _ _ => rfl) (s_load S hc.1.1 hc.1.2 R (loadAt_load hp))
  · -- store
    obtain ⟨b1, b2, hb, R1, R2⟩ := (opds_sound E hc.2).two
    rw [hb] at hp
    obtain ⟨w', hrun, hpost⟩ := s_store S hc.1 R1 R2 hp
    exact ⟨undef, w', fun _ _ _ _ => .inr ⟨by simp [execOp, hrun], rfl⟩, hpost⟩
  · -- nilCheck
    rename_i x
    obtain ⟨b, hb, R⟩ := (opds_sound E hc).one
    rw [hb] at hp
    cases b <;> first | (simp only [prim, reduceCtorEq] at hp; done) | skip
    · simp only [prim, Option.some.injEq, Prod.mk.injEq] at hp
      obtain ⟨rfl, he⟩ := hp
      refine pure1 (y := a.eval x) he.symm (fun _ _ _ _ => ?_) R
      generalize hy : a.eval x = y at R
      cases R
      simp [execOp, hy]
    · simp only [prim, Option.some.injEq, Prod.mk.injEq] at hp
      obtain ⟨rfl, he⟩ := hp
      refine pure1 (y := a.eval x) he.symm (fun _ _ _ _ => ?_) R
      generalize hy : a.eval x = y at R
      cases R
      simp [execOp, hy]
    · simp only [prim, Option.some.injEq, Prod.mk.injEq] at hp
      obtain ⟨rfl, he⟩ := hp
      refine pure1 (y := a.eval x) he.symm (fun _ _ _ _ => ?_) R
      generalize hy : a.eval x = y at R
      cases R
      simp [execOp, hy]
  · -- binOp
    rename_i op t x y yt op'
    simp only [beq_iff_eq] at hc
    obtain ⟨rfl, hx⟩ := hc
    obtain ⟨b1, b2, hb, R1, R2⟩ := (opds_sound E hx).two
    rw [hb] at hp
    cases b1 <;> first | (simp only [prim, reduceCtorEq] at hp; done) | skip
    cases b2 <;> first | (simp only [prim, reduceCtorEq] at hp; done) | skip
    simp only [prim] at hp
    obtain ⟨z, hz, he⟩ := Option.map_eq_some_iff.1 hp
    cases he
    have e1 := R1.v_inv
    have e2 := R2.v_inv
    refine p1 (fun _ _ _ _ => rfl) ⟨rfl, z, ?_, .v _⟩
    rw [e1, e2]
    exact s_bin hz
  · -- eq
    obtain ⟨b1, b2, hb, R1, R2⟩ := (opds_sound E hc.2).two
    rw [hb] at hp
    exact p1 (fun _ _ _ _ => rfl) (s_eq (neg := false) hc.1 R1 R2 hp)
  · obtain ⟨b1, b2, hb, R1, R2⟩ := (opds_sound E hc.2).two
    rw [hb] at hp
    exact p1 (fun _ _ _ _ => rfl) (s_eq (neg := true) hc.1 R1 R2 hp)
  · obtain ⟨b1, b2, hb, R1, R2⟩ := (opds_sound E hc.2).two
    rw [hb] at hp
    exact p1 (fun _ _ _ _ => rfl) (s_eqBool (neg := false) hc.1 R1 R2 hp)
  · obtain ⟨b1, b2, hb, R1, R2⟩ := (opds_sound E hc.2).two
    rw [hb] at hp
    exact p1 (fun _ _ _ _ => rfl) (s_eqBool (neg := true) hc.1 R1 R2 hp)
  · -- buildPlain
    rename_i t len parts site esz len' zero qs
    obtain ⟨⟨⟨⟨ht, hl⟩, hz⟩, hs⟩, hx⟩ := hc
    simp only [beq_iff_eq] at hl hz
    simp only [decide_eq_true_eq] at hs
    subst hl
    split at ht <;> first | (cases ht; done) | skip
    rename_i e hu
    simp only [Bool.and_eq_true] at ht
    exact st1 (fun _ _ _ _ => rfl) (s_buildPlain S ⟨e, hu, ht.1.1, ht.1.2, ht.2⟩ hz hs (opds_sound E hx) hp)
  · -- buildF
    exact st1 (fun _ _ _ _ => rfl) (s_buildF S hc.1.1 hc.1.2 (opds_sound E hc.2) hp)
  · obtain ⟨b1, b2, hb, R1, R2⟩ := (opds_sound E hc.2).two
    rw [hb] at hp
    exact p1 (fun _ _ _ _ => rfl) (s_eqPtr (neg := false) S hc.1 R1 R2 hp)
  · obtain ⟨b1, b2, hb, R1, R2⟩ := (opds_sound E hc.2).two
    rw [hb] at hp
    exact p1 (fun _ _ _ _ => rfl) (s_eqPtr (neg := true) S hc.1 R1 R2 hp)
  · obtain ⟨b1, b2, hb, R1, R2⟩ := (opds_sound E hc.2).two
    rw [hb] at hp
    exact p1 (fun _ _ _ _ => rfl) (s_eqNil (neg := false) S hc.1 R1 R2 hp)
  · obtain ⟨b1, b2, hb, R1, R2⟩ := (opds_sound E hc.2).two
    rw [hb] at hp
    exact p1 (fun _ _ _ _ => rfl) (s_eqNil (neg := true) S hc.1 R1 R2 hp)
  · -- unOp
    obtain ⟨hop, hx⟩ := hc
    simp only [beq_iff_eq] at hop
    subst hop
    obtain ⟨b1, hb, R1⟩ := (opds_sound E hx).one
    rw [hb] at hp
    cases b1 <;> first | (simp only [prim, reduceCtorEq] at hp; done) | skip
    simp only [prim] at hp
    obtain ⟨z, hz, he⟩ := Option.map_eq_some_iff.1 hp
    cases he
    have e1 := R1.v_inv
    refine p1 (fun _ _ _ _ => rfl) ⟨rfl, z, ?_, .v _⟩
    rw [e1]
    exact s_un hz
  · -- convInt
    obtain ⟨b1, hb, R1⟩ := (opds_sound E hc.2).one
    rw [hb] at hp
    cases b1 <;> first | (simp only [prim, reduceCtorEq] at hp; done) | skip
    rename_i y
    cases y <;> first | (simp only [prim, reduceCtorEq] at hp; done) | skip
    simp only [prim] at hp
    cases hp
    have e1 := R1.v_inv
    refine p1 (fun _ _ _ _ => rfl) ⟨rfl, _, ?_, .v _⟩
    rw [e1]
    exact s_convInt hc.1.1 hc.1.2
  · obtain ⟨b1, hb, R1⟩ := (opds_sound E hc.2).one
    rw [hb] at hp
    exact st1 (fun _ _ _ _ => rfl) (s_strBytes S hc.1.1 hc.1.2 R1 hp)
  · obtain ⟨b1, hb, R1⟩ := (opds_sound E hc.2).one
    rw [hb] at hp
    exact p1 (fun _ _ _ _ => rfl) (s_bytesStr S hc.1.1 hc.1.2 R1 hp)
  · obtain ⟨⟨hsd, ht⟩, hx⟩ := hc
    simp only [beq_iff_eq] at hsd
    subst hsd
    obtain ⟨b1, hb, R1⟩ := (opds_sound E hx).one
    rw [hb] at hp
    exact st1 (fun _ _ _ _ => rfl) (s_bytesBytes S ht R1 hp)
  · obtain ⟨b1, hb, R1⟩ := (opds_sound E hc.2).one
    rw [hb] at hp
    cases b1 <;> first | (simp only [prim, reduceCtorEq] at hp; done) | skip
    rename_i y
    cases y <;> first | (simp only [prim, reduceCtorEq] at hp; done) | skip
    simp only [prim] at hp
    cases hp
    have e1 := R1.v_inv
    refine p1 (fun _ _ _ _ => rfl) ⟨rfl, _, ?_, .v _⟩
    rw [e1]
    exact s_strStr hc.1.1 hc.1.2
  · -- makeFunc
    rename_i fn first captured f k
    obtain ⟨⟨hf, hk⟩, hx⟩ := hc
    split at hf <;> first | (cases hf; done) | skip
    rename_i id
    simp only [beq_iff_eq] at hf hk
    have R := opds_sound E hx
    rw [List.map_append] at R
    obtain ⟨he, hr⟩ := s_makeFunc hf (by simpa using hk) R hp
    refine pure1 he (fun _ _ _ _ => ?_) hr
    simp [execOp, Instr.makeFunc]
    constructor <;> (apply Array.toList_inj.1; simp)
  · -- makeSlice
    obtain ⟨⟨ht, hz⟩, hx⟩ := hc
    simp only [decide_eq_true_eq] at hz
    split at ht <;> first | (cases ht; done) | skip
    rename_i e hu
    simp only [Bool.and_eq_true] at ht
    obtain ⟨b1, b2, hb, R1, R2⟩ := (opds_sound E hx).two
    rw [hb] at hp
    exact st1 (fun _ _ _ _ => rfl) (s_makeSlice S ⟨e, hu, ht.1.1, ht.1.2, ht.2⟩ hz R1 R2 hp)
  · -- sliceStr
    rename_i t x l hh m lo hi
    obtain ⟨⟨⟨⟨ht, h1⟩, h2⟩, h3⟩, hx⟩ := hc
    simp only [beq_iff_eq, Option.isNone_iff_eq_none] at h1 h2 h3
    subst h3
    have R := opds_sound E hx
    rw [List.map_cons, optOpds_run] at R
    obtain ⟨b, as, hb, R1, Rs⟩ := R.head_inv
    rw [hb] at hp
    exact p1 (fun _ _ _ _ => rfl) (s_sliceStr (l := l.map a.eval) (h := hh.map a.eval) ht (by simpa using h1) (by simpa using h2) R1 Rs hp)
  · rename_i t x l hh m esz lo hi mx
    obtain ⟨⟨⟨⟨ht, h1⟩, h2⟩, h3⟩, hx⟩ := hc
    simp only [beq_iff_eq] at h1 h2 h3
    have R := opds_sound E hx
    rw [List.map_cons, optOpds_run] at R
    obtain ⟨b, as, hb, R1, Rs⟩ := R.head_inv
    rw [hb] at hp
    exact p1 (fun _ _ _ _ => rfl) (s_slice (l := l.map a.eval) (h := hh.map a.eval) (m := m.map a.eval) ht (by simpa using h1) (by simpa using h2) (by simpa using h3) R1 Rs hp)
  · rename_i t x l hh m n esz lo hi mx
    obtain ⟨⟨⟨⟨ht, h1⟩, h2⟩, h3⟩, hx⟩ := hc
    simp only [beq_iff_eq] at h1 h2 h3
    have R := opds_sound E hx
    rw [List.map_cons, optOpds_run] at R
    obtain ⟨b, as, hb, R1, Rs⟩ := R.head_inv
    rw [hb] at hp
    exact p1 (fun _ _ _ _ => rfl) (s_sliceArr (l := l.map a.eval) (h := hh.map a.eval) (m := m.map a.eval) ht (by simpa using h1) (by simpa using h2) (by simpa using h3) S R1 Rs hp)
  · -- fieldAddr
    obtain ⟨b1, hb, R1⟩ := (opds_sound E hc.2).one
    rw [hb] at hp
    exact p1 (fun _ _ _ _ => rfl) (s_fieldAddr hc.1 R1 hp)
  · obtain ⟨b1, hb, R1⟩ := (opds_sound E hc.2).one
    rw [hb] at hp
    exact p1 (fun _ _ _ _ => rfl) (s_field hc.1 R1 hp)
  · obtain ⟨b1, b2, hb, R1, R2⟩ := (opds_sound E hc.2).two
    rw [hb] at hp
    exact p1 (fun _ _ _ _ => rfl) (s_indexAddr hc.1 R1 R2 hp)
  · obtain ⟨b1, b2, hb, R1, R2⟩ := (opds_sound E hc.2).two
    rw [hb] at hp
    exact p1 (fun _ _ _ _ => rfl) (s_indexArr hc.1 R1 R2 hp)
  · obtain ⟨b1, b2, hb, R1, R2⟩ := (opds_sound E hc.2).two
    rw [hb] at hp
    exact p1 (fun _ _ _ _ => rfl) (s_indexStr hc.1 R1 R2 hp)
  · obtain ⟨ht, hx⟩ := hc
    split at ht <;> first | (cases ht; done) | skip
    rename_i m e hu
    simp only [Bool.and_eq_true, beq_iff_eq] at ht
    obtain ⟨⟨rfl, h1⟩, h2⟩ := ht
    obtain ⟨b1, b2, hb, R1, R2⟩ := (opds_sound E hx).two
    rw [hb] at hp
    exact p1 (fun _ _ _ _ => rfl) (s_indexAgg ⟨e, hu, h1, h2⟩ R1 R2 hp)
  · -- extract
    obtain ⟨hi, hx⟩ := hc
    simp only [beq_iff_eq] at hi
    subst hi
    obtain ⟨b1, hb, R1⟩ := (opds_sound E hx).one
    rw [hb] at hp
    exact p1 (fun _ _ _ _ => rfl) (s_extract R1 hp)
  · -- calls answer nothing here
    simp only [prim, reduceCtorEq] at hp
  · simp only [prim, reduceCtorEq] at hp
  · -- overlaps
    rename_i c
    obtain ⟨callee, args, ats⟩ := c
    obtain ⟨rfl, g, y, hg, hrun, hr⟩ := s_overlaps S hc.1 (opds_sound E hc.2) hp
    simp only at hg
    subst hg
    refine pure1 rfl (fun _ _ _ _ => ?_) hr
    have hargs : (#[] ++ Array.map a.eval args ++ #[] : Array Value) = (args.toList.map a.eval).toArray := by
      apply Array.toList_inj.1; simp
    simp only [execOp, resolve, Act.eval, Deferred.ofValue, Sem.run_bind, Sem.run_pure, Result.andThen_ok, invoke]
    rw [hargs]
    exact hrun
  · split at hc <;> first | (cases hc; done) | skip
    cases hxs : xs.map (evalO env) with
    | nil => rw [hxs] at hp; simp only [prim, reduceCtorEq] at hp
    | cons b bs => rw [hxs] at hp; simp only [prim, reduceCtorEq] at hp
  · -- what is built in
    rename_i c _ _ _ _
    obtain ⟨callee, args, argTypes⟩ := c
    simp only at hc
    split at hc <;> first | (cases hc; done) | skip
    rename_i b
    have R0 : ∀ {l : List Operand}, args.toList = l → opds fid args.toList xs = true → Reps fid w (Wr μ h.get) (info μ h.get) (l.map a.eval) (xs.map (evalO env)) := by
      intro l hl hx; rw [← hl]; exact opds_sound E hx
    have hargs : ∀ {l : List Operand}, args.toList = l → args.map a.eval = (l.map a.eval).toArray := by
      intro l hl; apply Array.toList_inj.1; simp [hl]
    have harg2 : args.toList.length = 2 → ∃ x y, args.toList = [x, y] := by
      intro hl
      match args.toList, hl with
      | [x, y], _ => exact ⟨x, y, rfl⟩
    have harg1 : args.toList.length = 1 → ∃ x, args.toList = [x] := by
      intro hl
      match args.toList, hl with
      | [x], _ => exact ⟨x, rfl⟩
    have hts : ∀ {l : List TypeId}, argTypes.toList = l → argTypes = l.toArray := by
      intro l hl; apply Array.toList_inj.1; simp [hl]
    unfold chkBuiltin at hc
    split at hc <;> (try simp only [Bool.and_eq_true, beq_iff_eq, decide_eq_true_eq] at hc)
    · -- append
      rename_i t u hT _ _ _ _
      obtain ⟨⟨⟨⟨⟨ht, hu⟩, h1⟩, h2⟩, hx⟩, hl⟩ := hc
      split at ht <;> first | (cases ht; done) | skip
      rename_i e hue
      simp only [Bool.and_eq_true] at ht
      obtain ⟨⟨⟨g1, g2⟩, g3⟩, g4⟩ := ht
      obtain ⟨x, y, hxy⟩ := harg2 hl
      obtain ⟨b1, b2, hb, R1, R2⟩ := (R0 hxy hx).two
      rw [hb] at hp
      have T : AppT P t u _ _ := ⟨⟨e, hue, g1, g2, g3, fun i z hi hz y hy => by
        rw [hi] at g4
        simp only [Option.any_some, hz, Option.any_some, Array.all_eq_true_iff_forall_mem] at g4
        exact g4 y hy⟩, hu, h1, h2⟩
      refine st1 (fun _ _ _ _ => ?_) (s_append (ty := ty) S T R1 R2 hp)
      simp only [execOp, resolve, hargs hxy, hts hT]
      rfl
    · -- append of a make
      rename_i t u hT _ _ _ _
      obtain ⟨⟨⟨⟨⟨ht, hu⟩, h1⟩, h2⟩, hx⟩, hl⟩ := hc
      split at ht <;> first | (cases ht; done) | skip
      rename_i e hue
      split at hu <;> first | (cases hu; done) | skip
      rename_i ik hik
      simp only [Bool.and_eq_true] at ht
      obtain ⟨⟨g1, g2⟩, g3⟩ := ht
      obtain ⟨x, y, hxy⟩ := harg2 hl
      obtain ⟨b1, b2, hb, R1, R2⟩ := (R0 hxy hx).two
      rw [hb] at hp
      refine st1 (fun _ _ _ _ => ?_) (s_appendZ (ty := ty) S ⟨⟨e, hue, g1, g2, g3⟩, ⟨ik, hik⟩, h1, h2⟩ R1 R2 hp)
      simp only [execOp, resolve, hargs hxy, hts hT]
      rfl
    · -- copy
      rename_i t u hT _ _ _ _
      obtain ⟨⟨⟨ht, hu⟩, hx⟩, hl⟩ := hc
      obtain ⟨x, y, hxy⟩ := harg2 hl
      obtain ⟨b1, b2, hb, R1, R2⟩ := (R0 hxy hx).two
      rw [hb] at hp
      refine st1 (fun _ _ _ _ => ?_) (s_copy (ty := ty) S ht R1 R2 hp hu)
      simp only [execOp, resolve, hargs hxy, hts hT]
      rfl
    · rename_i t hT _ _ _ _
      obtain ⟨⟨ht, hx⟩, hl⟩ := hc
      obtain ⟨x, hxy⟩ := harg1 hl
      obtain ⟨b1, hb, R1⟩ := (R0 hxy hx).one
      rw [hb] at hp
      refine p1 (fun _ _ _ _ => ?_) (s_lenStr (ty := ty) ht R1 hp)
      simp only [execOp, resolve, hargs hxy, hts hT]
      rfl
    · rename_i t hT _ _ _ _
      obtain ⟨⟨ht, hx⟩, hl⟩ := hc
      obtain ⟨x, hxy⟩ := harg1 hl
      obtain ⟨b1, hb, R1⟩ := (R0 hxy hx).one
      rw [hb] at hp
      refine p1 (fun _ _ _ _ => ?_) (s_lenSlice (ty := ty) ht R1 hp)
      simp only [execOp, resolve, hargs hxy, hts hT]
      rfl
    · rename_i t hT _ _ _ _
      obtain ⟨⟨ht, hx⟩, hl⟩ := hc
      obtain ⟨x, hxy⟩ := harg1 hl
      obtain ⟨b1, hb, R1⟩ := (R0 hxy hx).one
      rw [hb] at hp
      refine p1 (fun _ _ _ _ => ?_) (s_lenArr (ty := ty) ht R1 hp)
      simp only [execOp, resolve, hargs hxy, hts hT]
      rfl
    · rename_i t hT _ _ _ _
      obtain ⟨⟨ht, hx⟩, hl⟩ := hc
      obtain ⟨x, hxy⟩ := harg1 hl
      obtain ⟨b1, hb, R1⟩ := (R0 hxy hx).one
      rw [hb] at hp
      refine p1 (fun _ _ _ _ => ?_) (s_cap (ty := ty) ht R1 hp)
      simp only [execOp, resolve, hargs hxy, hts hT]
      rfl
    · have R := R0 rfl hc
      refine p1 (fun _ _ _ _ => ?_) (s_min (ts := argTypes) (ty := ty) R hp)
      simp only [execOp, resolve, hargs rfl]
      rfl
    · have R := R0 rfl hc
      refine p1 (fun _ _ _ _ => ?_) (s_max (ts := argTypes) (ty := ty) R hp)
      simp only [execOp, resolve, hargs rfl]
      rfl
    · cases hc
  · cases hc
end Go.AM
namespace Go.AM
open Go.RowKit
variable {fid : String → Option FuncId} {P : Program}
def Ord (G : List (Option Blk)) : Prop := ∀ (p : Nat) B, G[p]? = some (some B) → B.labs.all (labLt p) = true
theorem new_G {h h' : Hp} {site B} (hn : h.new site B = some h') : h'.G = h.G := by
  unfold Hp.new at hn
  split at hn <;> cases hn
  rfl
theorem labss_append {as bs : List AV} : AV.labs.labss (as ++ bs) = AV.labs.labss as ++ AV.labs.labss bs := by
  induction as with
  | nil => rfl
  | cons a as ih => simp [AV.labs.labss, ih]
theorem labss_lf {as : List AV} (h : AV.lf.lfs as = true) : AV.labs.labss as = [] := by
  induction as with
  | nil => rfl
  | cons a as ih =>
    simp only [AV.lf.lfs, Bool.and_eq_true] at h
    simp [AV.labs.labss, lf_of_labs_nil h.1, ih h.2]
theorem labss_sub {as : List AV} {n : Nat} {f : Lab → Bool} (h : (AV.labs.labss as).all f = true) : (AV.labs.labss (as.take n)).all f = true ∧ (AV.labs.labss (as.drop n)).all f = true := by
  have : AV.labs.labss as = AV.labs.labss (as.take n) ++ AV.labs.labss (as.drop n) := by rw [← labss_append, List.take_append_drop]
  rw [this, List.all_append, Bool.and_eq_true] at h
  exact h
def DataOK (h : Hp) : Prop := ∀ ℓ B, h.get ℓ = some B → B.data = true → AV.lf.lfs B.cells = true
theorem Sim.dataOK {base w0 w μ} {h : Hp} (S : Sim fid base w0 w μ h.get) : DataOK h := fun ℓ B hb => (S.ok.blk ℓ B hb).data
theorem DataOK.labs {h : Hp} (S : DataOK h) {ℓ B} (hb : h.get ℓ = some B) : B.labs = AV.labs.labss B.cells := by
  unfold Blk.labs
  split
  · rename_i hd; rw [labss_lf (S ℓ B hb hd)]
  · rfl
theorem okPut_o {p : Nat} {cs : List AV} (h : okPut (.o p) cs = true) : (AV.labs.labss cs).all (labLt p) = true := by
  simp only [okPut, Bool.or_eq_true] at h
  rcases h with h | h
  · rw [labss_lf h]; rfl
  · exact h
theorem put_ord {h : Hp} {ℓ : Lab} {B B' : Blk} (hO : Ord h.G) (hb : h.get ℓ = some B) (hl : ∀ p, ℓ = .o p → B.labs.all (labLt p) = true → B'.labs.all (labLt p) = true) :
    Ord (h.put ℓ (some B')).G := by
  cases ℓ with
  | l k => exact hO
  | o p =>
    intro q C hq
    simp only [Hp.put, List.getElem?_set] at hq
    split at hq
    · rename_i e
      subst e
      split at hq
      · cases hq
        refine hl p rfl (hO p B ?_)
        simp only [Hp.get] at hb
        cases hg : h.G[p]? with
        | none => simp [hg] at hb
        | some x => simp only [hg, Option.join_some] at hb; rw [hb]
      · cases hq
    · exact hO q C hq
theorem freeze_ord {h h' : Hp} {a a'} (hO : Ord h.G) (hf : h.freeze a = some (a', h')) : Ord h'.G := by
  unfold Hp.freeze at hf
  split at hf
  · split at hf
    · rename_i B hb
      split at hf <;> cases hf
      refine put_ord hO hb fun p _ h => ?_
      exact h
    · cases hf
  · cases hf; exact hO
theorem freeze_data {h h' : Hp} {a a'} (hO : DataOK h) (hf : h.freeze a = some (a', h')) : DataOK h' := by
  unfold Hp.freeze at hf
  split at hf
  · split at hf
    · rename_i B hb
      split at hf <;> cases hf
      intro ℓ C hC
      rw [put_get hb] at hC
      simp only [upd] at hC
      split at hC
      · cases hC; exact hO _ B hb
      · exact hO _ C hC
    · cases hf
  · cases hf; exact hO
theorem freezes_data : ∀ {as as' : List AV} {h h' : Hp}, DataOK h → h.freezes as = some (as', h') → DataOK h'
  | [], as', h, h', hO, hf => by simp only [Hp.freezes, Option.some.injEq, Prod.mk.injEq] at hf; rw [← hf.2]; exact hO
  | a :: as, as', h, h', hO, hf => by
    simp only [Hp.freezes] at hf
    obtain ⟨⟨a1, h1⟩, hf1, hf2⟩ := Option.bind_eq_some_iff.1 hf
    obtain ⟨⟨as2, h2⟩, hf3, he⟩ := Option.map_eq_some_iff.1 hf2
    cases he
    exact freezes_data (freeze_data hO hf1) hf3
theorem mayFreeze_data {frz} {as as' : List AV} {h h' : Hp} (hO : DataOK h) (hf : h.mayFreeze frz as = some (as', h')) : DataOK h' := by
  unfold Hp.mayFreeze at hf
  split at hf
  · exact freezes_data hO hf
  · cases hf; exact hO
theorem freezes_ord : ∀ {as as' : List AV} {h h' : Hp}, Ord h.G → h.freezes as = some (as', h') → Ord h'.G
  | [], as', h, h', hO, hf => by simp only [Hp.freezes, Option.some.injEq, Prod.mk.injEq] at hf; rw [← hf.2]; exact hO
  | a :: as, as', h, h', hO, hf => by
    simp only [Hp.freezes] at hf
    obtain ⟨⟨a1, h1⟩, hf1, hf2⟩ := Option.bind_eq_some_iff.1 hf
    obtain ⟨⟨as2, h2⟩, hf3, he⟩ := Option.map_eq_some_iff.1 hf2
    cases he
    exact freezes_ord (freeze_ord hO hf1) hf3
theorem mayFreeze_ord {frz} {as as' : List AV} {h h' : Hp} (hO : Ord h.G) (hf : h.mayFreeze frz as = some (as', h')) : Ord h'.G := by
  unfold Hp.mayFreeze at hf
  split at hf
  · exact freezes_ord hO hf
  · cases hf; exact hO
theorem kids_G {site} : ∀ {kids : List (Nat × Nat × Nat)} {h h' : Hp} {cells cells' : List AV}, kidsIn h site cells kids = some (cells', h') → h'.G = h.G
  | [], h, h', cells, cells', hk => by simp only [kidsIn, Option.some.injEq, Prod.mk.injEq] at hk; rw [← hk.2]
  | (j, s, e) :: ks, h, h', cells, cells', hk => by
    simp only [kidsIn] at hk
    split at hk <;> first | (cases hk; done) | skip
    obtain ⟨h1, hn, hk1⟩ := Option.bind_eq_some_iff.1 hk
    rw [kids_G hk1, new_G hn]
theorem labs_cells {h : Hp} (S : DataOK h) {ℓ B} (hb : h.get ℓ = some B) {new cells : List AV} {d : Bool} (hok : okPut ℓ new = true)
    (hsub : ∀ f : Lab → Bool, (AV.labs.labss B.cells).all f = true → (AV.labs.labss new).all f = true → (AV.labs.labss cells).all f = true) {op wr vi pl : Bool} :
    ∀ p, ℓ = .o p → B.labs.all (labLt p) = true → ({ cells, opn := op, wr, data := d, virt := vi, plain := pl } : Blk).labs.all (labLt p) = true := by
  intro p hp hB
  subst hp
  rw [S.labs hb] at hB
  unfold Blk.labs
  split
  · rfl
  · exact hsub _ hB (okPut_o hok)
theorem lay_labs {cs new : List AV} {off : Nat} (f : Lab → Bool) (h1 : (AV.labs.labss cs).all f = true) (h2 : (AV.labs.labss new).all f = true) : (AV.labs.labss (lay cs off new)).all f = true := by
  unfold lay
  rw [labss_append, labss_append, List.all_append, List.all_append, (labss_sub h1).1, h2, (labss_sub h1).2]; rfl
theorem append_ord {h h' : Hp} {site esz bytes k : Nat} {s r : AV} {new : List AV} (S : DataOK h) (hO : Ord h.G) (hp : h.append site esz bytes s k new = some (r, h')) : Ord h'.G := by
  unfold Hp.append at hp
  split at hp <;> first | (cases hp; done) | skip
  split at hp
  · split at hp
    · cases hp; exact hO
    · split at hp <;> first | (cases hp; done) | skip
      obtain ⟨h2, hn, he⟩ := Option.map_eq_some_iff.1 hp
      cases he
      rw [new_G hn]; exact hO
  · rename_i ℓ n off len esz' cap
    cases hb : h.get ℓ with
    | none => simp [hb] at hp
    | some B =>
      simp only [hb] at hp
      split at hp <;> first | (cases hp; done) | skip
      rename_i hc
      obtain ⟨_, _, _, hok⟩ := hc
      split at hp
      · cases hp; exact hO
      · split at hp
        · split at hp
          · split at hp <;> cases hp
            exact put_ord hO hb (labs_cells S hb hok fun f h1 h2 => lay_labs f h1 h2)
          · obtain ⟨h2, hn, he⟩ := Option.map_eq_some_iff.1 hp
            cases he
            rw [new_G hn]; exact hO
        · split at hp <;> first | (cases hp; done) | skip
          split at hp
          · cases hp
            exact put_ord hO hb (labs_cells S hb hok fun f h1 h2 => lay_labs f h1 h2)
          · split at hp <;> cases hp
            exact put_ord hO hb (labs_cells S hb hok fun f h1 h2 => by rw [labss_append, List.all_append, (labss_sub h1).1, h2]; rfl)
  · split at hp <;> cases hp
    exact hO
  · cases hp
theorem copy_ord {h h' : Hp} {esz k : Nat} {d : AV} {src : List AV} (S : DataOK h) (hO : Ord h.G) (hp : h.copyInto esz d src k = some h') : Ord h'.G := by
  unfold Hp.copyInto at hp
  split at hp
  · cases hp; exact hO
  · split at hp <;> first | (cases hp; done) | skip
    split at hp <;> first | (cases hp; done) | skip
    rename_i B hb
    split at hp <;> cases hp
    rename_i hc
    obtain ⟨_, _, _, _, _, hok⟩ := hc
    refine put_ord hO hb (labs_cells S hb hok fun f h1 h2 => lay_labs f h1 (labss_sub h2).1)
theorem prim_ord {h h' : Hp} {p : Prim} {xs : List AV} {r : AV} (S : DataOK h) (hO : Ord h.G) (hp : prim h p xs = some (r, h')) : Ord h'.G := by
  by_cases hf : p.free = true
  · rw [(free_prim hf hp).1]; exact hO
  · cases p <;> simp only [Prim.free, reduceCtorEq, not_true_eq_false, not_false_eq_true] at hf <;> simp only [prim] at hp <;> first | (cases hp; done) | skip
    · split at hp <;> first | (cases hp; done) | skip
      obtain ⟨h2, hn, he⟩ := Option.map_eq_some_iff.1 hp
      cases he; rw [new_G hn]; exact hO
    · split at hp <;> first | (cases hp; done) | skip
      obtain ⟨h1, hn, hp1⟩ := Option.bind_eq_some_iff.1 hp
      obtain ⟨⟨cells, h2⟩, hk, he⟩ := Option.map_eq_some_iff.1 hp1
      cases he
      simp only [Hp.put]
      rw [kids_G hk, new_G hn]; exact hO
    · split at hp <;> first | (cases hp; done) | skip
      obtain ⟨cs, hcs, hp1⟩ := Option.bind_eq_some_iff.1 hp
      obtain ⟨h2, hn, he⟩ := Option.map_eq_some_iff.1 hp1
      cases he; rw [new_G hn]; exact hO
    · split at hp <;> first | (cases hp; done) | skip
      obtain ⟨cs, hcs, hp0⟩ := Option.bind_eq_some_iff.1 hp
      obtain ⟨h1, hn, hp1⟩ := Option.bind_eq_some_iff.1 hp0
      obtain ⟨⟨cells, h2⟩, hk, he⟩ := Option.map_eq_some_iff.1 hp1
      cases he
      simp only [Hp.put]
      rw [kids_G hk, new_G hn]; exact hO
    · obtain ⟨⟨as', h1⟩, hfz, hp1⟩ := Option.bind_eq_some_iff.1 hp
      obtain ⟨cs, hf, hp2⟩ := Option.bind_eq_some_iff.1 hp1
      split at hp2 <;> first | (cases hp2; done) | skip
      obtain ⟨h2, hn, he⟩ := Option.map_eq_some_iff.1 hp2
      cases he; rw [new_G hn]; exact mayFreeze_ord hO hfz
    · split at hp <;> first | (cases hp; done) | skip
      · split at hp <;> first | (cases hp; done) | skip
        split at hp <;> first | (cases hp; done) | skip
        obtain ⟨_, _, he⟩ := Option.map_eq_some_iff.1 hp
        cases he; exact hO
      · split at hp <;> first | (cases hp; done) | skip
        obtain ⟨_, _, he⟩ := Option.map_eq_some_iff.1 hp
        cases he; exact hO
    · split at hp <;> first | (cases hp; done) | skip
      split at hp <;> first | (cases hp; done) | skip
      split at hp <;> first | (cases hp; done) | skip
      split at hp <;> first | (cases hp; done) | skip
      obtain ⟨_, _, he⟩ := Option.map_eq_some_iff.1 hp
      cases he; exact hO
    · split at hp <;> first | (cases hp; done) | skip
      obtain ⟨cs0, hcs0, hp1⟩ := Option.bind_eq_some_iff.1 hp
      obtain ⟨⟨cs, h1⟩, hfz, hp2⟩ := Option.bind_eq_some_iff.1 hp1
      simp only at hp2
      split at hp2 <;> first | (cases hp2; done) | skip
      rename_i B hb
      split at hp2 <;> cases hp2
      rename_i hc
      obtain ⟨_, _, _, _, hok⟩ := hc
      exact put_ord (mayFreeze_ord hO hfz) hb (labs_cells (mayFreeze_data S hfz) hb hok fun f h1 h2 => lay_labs f h1 h2)
    · split at hp <;> first | (cases hp; done) | skip
      split at hp
      · obtain ⟨_, _, he⟩ := Option.map_eq_some_iff.1 hp
        cases he; exact hO
      · split at hp <;> first | (cases hp; done) | skip
        obtain ⟨_, _, he⟩ := Option.map_eq_some_iff.1 hp
        cases he; exact hO
    · split at hp <;> first | (cases hp; done) | skip
      obtain ⟨h2, hn, he⟩ := Option.map_eq_some_iff.1 hp
      cases he; rw [new_G hn]; exact hO
    · split at hp <;> first | (cases hp; done) | skip
      obtain ⟨cs, _, hp1⟩ := Option.bind_eq_some_iff.1 hp
      split at hp1 <;> first | (cases hp1; done) | skip
      obtain ⟨_, _, he⟩ := Option.map_eq_some_iff.1 hp1
      cases he; exact hO
    · split at hp <;> first | (cases hp; done) | skip
      split at hp <;> first | (cases hp; done) | skip
      split at hp <;> cases hp
      exact hO
    · split at hp <;> first | (cases hp; done) | skip
      obtain ⟨len, hl, hp1⟩ := Option.bind_eq_some_iff.1 hp
      obtain ⟨cap, hc, hp2⟩ := Option.bind_eq_some_iff.1 hp1
      split at hp2 <;> first | (cases hp2; done) | skip
      obtain ⟨h2, hn, he⟩ := Option.map_eq_some_iff.1 hp2
      cases he; rw [new_G hn]; exact hO
    · split at hp <;> first | (cases hp; done) | skip
      obtain ⟨⟨k, new⟩, hsrc, hp1⟩ := Option.bind_eq_some_iff.1 hp
      obtain ⟨⟨new', h1⟩, hfz, hp2⟩ := Option.bind_eq_some_iff.1 hp1
      exact append_ord (mayFreeze_data S hfz) (mayFreeze_ord hO hfz) hp2
    · split at hp <;> first | (cases hp; done) | skip
      obtain ⟨k, hk, hp1⟩ := Option.bind_eq_some_iff.1 hp
      split at hp1 <;> first | (cases hp1; done) | skip
      exact append_ord S hO hp1
    · split at hp <;> first | (cases hp; done) | skip
      obtain ⟨m, hm, hp1⟩ := Option.bind_eq_some_iff.1 hp
      obtain ⟨⟨k, src⟩, hsrc, hp2⟩ := Option.bind_eq_some_iff.1 hp1
      simp only at hp2
      split at hp2 <;> first | (cases hp2; done) | skip
      obtain ⟨h1, hc, he⟩ := Option.map_eq_some_iff.1 hp2
      cases he
      exact copy_ord S hO hc
    · obtain ⟨cs, hf, hp2⟩ := Option.bind_eq_some_iff.1 hp
      split at hp2 <;> first | (cases hp2; done) | skip
      obtain ⟨h2, hn, he⟩ := Option.map_eq_some_iff.1 hp2
      cases he; rw [new_G hn]; exact hO
    · obtain ⟨⟨as', h1⟩, hfz, hp1⟩ := Option.bind_eq_some_iff.1 hp
      obtain ⟨cs, hf, he⟩ := Option.map_eq_some_iff.1 hp1
      cases he
      exact mayFreeze_ord (frz := true) hO hfz
    · split at hp <;> first | (cases hp; done) | skip
      split at hp <;> first | (cases hp; done) | skip
      split at hp <;> cases hp
      exact hO
    · split at hp <;> first | (cases hp; done) | skip
      split at hp <;> first | (cases hp; done) | skip
      split at hp <;> cases hp
      exact hO
end Go.AM
namespace Go.AM
open Go.RowKit
variable {fid : String → Option FuncId} {P : Program}
theorem Blk.ren_wr (ρ) (B : Blk) : (B.ren ρ).wr = B.wr := by unfold Blk.ren; split <;> rfl
theorem Blk.ren_virt (ρ) (B : Blk) : (B.ren ρ).virt = B.virt := by unfold Blk.ren; split <;> rfl
theorem Blk.ren_opn (ρ) (B : Blk) : (B.ren ρ).opn = B.opn := by unfold Blk.ren; split <;> rfl
theorem Blk.ren_plain (ρ) (B : Blk) : (B.ren ρ).plain = B.plain := by unfold Blk.ren; split <;> rfl
theorem Blk.ren_data (ρ) (B : Blk) : (B.ren ρ).data = B.data := by unfold Blk.ren; split <;> rfl
theorem Blk.ren_length (ρ) (B : Blk) : (B.ren ρ).cells.length = B.cells.length := by unfold Blk.ren; split <;> simp [rens_length]
theorem BlkOK.ren {base w W M M' b sz B} (h : BlkOK fid base w W M b sz B) (ρ : Lab → Option Lab) (hρ : ∀ ℓ I ℓ', M ℓ = some I → ρ ℓ = some ℓ' → M' ℓ' = some I) :
    BlkOK fid base w W M' b sz (B.ren ρ) := by
  refine ⟨fun hv => ?_, fun hd => ?_, fun hv => ?_⟩
  · rw [Blk.ren_virt] at hv
    obtain ⟨h1, h2⟩ := h.virt hv
    refine ⟨List.eq_nil_of_length_eq_zero (by rw [Blk.ren_length, h1]; rfl), by rw [Blk.ren_opn]; exact h2⟩
  · rw [Blk.ren_data] at hd
    have : B.ren ρ = B := by unfold Blk.ren; rw [if_pos hd]
    rw [this]; exact h.data hd
  · rw [Blk.ren_virt] at hv
    obtain ⟨c, e, lo, hi, h1, h2, h3, h4, h5, h6, h7, h8⟩ := h.row hv
    refine ⟨c, e, lo, hi, h1, h2, by rw [Blk.ren_plain]; exact h3, by rw [Blk.ren_length]; exact h4, by rw [Blk.ren_opn, Blk.ren_length]; exact h5, h6, h7, fun i a ha => ?_⟩
    by_cases hd : B.data = true
    · have e0 : B.ren ρ = B := by unfold Blk.ren; rw [if_pos hd]
      rw [e0] at ha
      obtain ⟨x, hx, r⟩ := h8 i a ha
      exact ⟨x, hx, r.lf_any (lfs_get (h.data hd) ha)⟩
    · have e0 : (B.ren ρ).cells = AV.ren.rens ρ B.cells := by unfold Blk.ren; rw [if_neg hd]
      rw [e0, rens_get] at ha
      obtain ⟨a0, ha0, rfl⟩ := Option.map_eq_some_iff.1 ha
      obtain ⟨x, hx, r⟩ := h8 i a0 ha0
      exact ⟨x, hx, r.ren ρ hρ⟩
theorem Sim.relabel {base w0 w μ} {get get' : Lab → Option Blk} (S : Sim fid base w0 w μ get) (ρ : Lab → Option Lab) (ψ : Lab → Lab)
    (hg : ∀ ℓ' B', get' ℓ' = some B' → ∃ B, get (ψ ℓ') = some B ∧ B' = B.ren ρ ∧ ρ (ψ ℓ') = some ℓ')
    (hρ : ∀ ℓ B ℓ', get ℓ = some B → ρ ℓ = some ℓ' → ψ ℓ' = ℓ ∧ get' ℓ' = some (B.ren ρ)) :
    Sim fid base w0 w (fun ℓ' => μ (ψ ℓ')) get' ∧ (∀ b, Wr (fun ℓ' => μ (ψ ℓ')) get' b → Wr μ get b) ∧
      (∀ ℓ I ℓ', info μ get ℓ = some I → ρ ℓ = some ℓ' → info (fun ℓ' => μ (ψ ℓ')) get' ℓ' = some I) := by
  have hinfo : ∀ ℓ I ℓ', info μ get ℓ = some I → ρ ℓ = some ℓ' → info (fun ℓ' => μ (ψ ℓ')) get' ℓ' = some I := by
    intro ℓ I ℓ' hI hr
    simp only [info] at hI
    obtain ⟨B, hB, rfl⟩ := Option.map_eq_some_iff.1 hI
    obtain ⟨h1, h2⟩ := hρ ℓ B ℓ' hB hr
    simp [info, h1, h2, Blk.ren_length, Blk.ren_virt]
  have hW : ∀ b, Wr (fun ℓ' => μ (ψ ℓ')) get' b → Wr μ get b := by
    rintro b ⟨ℓ', B', h1, h2, h3, h4⟩
    obtain ⟨B, hB, rfl, hr⟩ := hg ℓ' B' h1
    rw [Blk.ren_wr] at h2
    rw [Blk.ren_virt] at h3
    exact ⟨ψ ℓ', B, hB, h2, h3, h4⟩
  refine ⟨⟨S.below, S.le, fun ℓ' B' hB' => ?_, fun ℓ1 ℓ2 B1 B2 h1 h2 v1 v2 e => ?_⟩, hW, hinfo⟩
  · obtain ⟨B, hB, rfl, hr⟩ := hg ℓ' B' hB'
    exact ((S.ok.blk (ψ ℓ') B hB).ren ρ hinfo).pres ⟨fun _ _ _ => rfl, fun b _ h => hW b h, fun ℓ I hI => ⟨I, hI, .inl rfl⟩, Nat.le_refl _⟩ rfl
  · obtain ⟨C1, g1, rfl, r1⟩ := hg ℓ1 B1 h1
    obtain ⟨C2, g2, rfl, r2⟩ := hg ℓ2 B2 h2
    rw [Blk.ren_virt] at v1 v2
    have := S.ok.inj _ _ C1 C2 g1 g2 v1 v2 e
    rw [this, r2] at r1
    exact (Option.some.inj r1).symm
theorem Rep.relabel {w W W' M M' x a} (r : Rep fid w W M x a) (ρ : Lab → Option Lab) (hW : ∀ b, W' b → W b) (hρ : ∀ ℓ I ℓ', M ℓ = some I → ρ ℓ = some ℓ' → M' ℓ' = some I) :
    Rep fid w W' M' x (a.ren ρ) :=
  (r.ren ρ hρ).pres ⟨fun _ _ _ => rfl, fun b _ h => hW b h, fun ℓ I hI => ⟨I, hI, .inl rfl⟩, Nat.le_refl _⟩
theorem Reps.relabel {w W W' M M' xs as} (r : Reps fid w W M xs as) (ρ : Lab → Option Lab) (hW : ∀ b, W' b → W b) (hρ : ∀ ℓ I ℓ', M ℓ = some I → ρ ℓ = some ℓ' → M' ℓ' = some I) :
    Reps fid w W' M' xs (as.map (AV.ren ρ)) :=
  (r.ren ρ hρ).pres ⟨fun _ _ _ => rfl, fun b _ h => hW b h, fun ℓ I hI => ⟨I, hI, .inl rfl⟩, Nat.le_refl _⟩
theorem Rep.live {w W M x a} (h : Rep fid w W M x a) : ∀ ℓ ∈ a.labs, ∃ I, M ℓ = some I := by
  induction h with
  | v x => simp [AV.labs]
  | dead x => simp [AV.labs]
  | ptr hM hn h => intro ℓ hℓ; simp only [AV.labs, List.mem_singleton] at hℓ; subst hℓ; exact ⟨_, hM⟩
  | own hM hn h hlen => intro ℓ hℓ; simp only [AV.labs, List.mem_singleton] at hℓ; subst hℓ; exact ⟨_, hM⟩
  | ro => simp [AV.labs]
  | rop => simp [AV.labs]
  | @fn _ _ first caps fs cs hf h1 _ h2 _ ih1 ih2 =>
    intro ℓ hℓ
    simp only [AV.labs, List.mem_append, labss_mem] at hℓ
    rcases hℓ with ⟨a, ha, hl⟩ | ⟨a, ha, hl⟩
    · obtain ⟨i, hi⟩ := List.getElem?_of_mem ha
      have hlt : i < fs.length := by
        rw [h1]
        by_cases hlt : i < first.length
        · exact hlt
        · rw [List.getElem?_eq_none (by omega)] at hi; cases hi
      exact ih1 i _ a (List.getElem?_eq_getElem hlt) hi ℓ hl
    · obtain ⟨i, hi⟩ := List.getElem?_of_mem ha
      have hlt : i < cs.length := by
        rw [h2]
        by_cases hlt : i < caps.length
        · exact hlt
        · rw [List.getElem?_eq_none (by omega)] at hi; cases hi
      exact ih2 i _ a (List.getElem?_eq_getElem hlt) hi ℓ hl
  | @agg xs as h1 h2 _ ih =>
    intro ℓ hℓ
    simp only [AV.labs, labss_mem] at hℓ
    obtain ⟨a, ha, hl⟩ := hℓ
    obtain ⟨i, hi⟩ := List.getElem?_of_mem ha
    have hlt : i < xs.length := by
      rw [h1]
      by_cases hlt : i < as.length
      · exact hlt
      · rw [List.getElem?_eq_none (by omega)] at hi; cases hi
    exact ih i _ a (List.getElem?_eq_getElem hlt) hi ℓ hl
  | @tup xs as h1 _ ih =>
    intro ℓ hℓ
    simp only [AV.labs, labss_mem] at hℓ
    obtain ⟨a, ha, hl⟩ := hℓ
    obtain ⟨i, hi⟩ := List.getElem?_of_mem ha
    have hlt : i < xs.length := by
      rw [h1]
      by_cases hlt : i < as.length
      · exact hlt
      · rw [List.getElem?_eq_none (by omega)] at hi; cases hi
    exact ih i _ a (List.getElem?_eq_getElem hlt) hi ℓ hl
theorem BlkOK.live {base w W M b sz B} (h : BlkOK fid base w W M b sz B) : ∀ ℓ ∈ B.labs, ∃ I, M ℓ = some I := by
  intro ℓ hℓ
  unfold Blk.labs at hℓ
  split at hℓ
  · simp at hℓ
  · rw [labss_mem] at hℓ
    obtain ⟨a, ha, hl⟩ := hℓ
    cases hv : B.virt with
    | true => rw [(h.virt hv).1] at ha; simp at ha
    | false =>
      obtain ⟨c, e, lo, hi, _, _, _, _, _, _, _, h8⟩ := h.row hv
      obtain ⟨i, hi'⟩ := List.getElem?_of_mem ha
      obtain ⟨x, _, r⟩ := h8 i a hi'
      exact r.live ℓ hl
theorem ren_id {ρ : Lab → Option Lab} {a : AV} : (∀ ℓ ∈ a.labs, ρ ℓ = some ℓ) → a.ren ρ = a := by
  induction a using AV.rec (motive_2 := fun as => (∀ ℓ ∈ AV.labs.labss as, ρ ℓ = some ℓ) → AV.ren.rens ρ as = as) with
  | v x => intro _; rfl
  | ptr ℓ n off => intro h; simp [AV.ren, h ℓ (by simp [AV.labs])]
  | own ℓ n off len esz cap => intro h; simp [AV.ren, h ℓ (by simp [AV.labs])]
  | ro => intro _; rfl
  | rop => intro _; rfl
  | fn f a b iha ihb =>
    intro h
    simp only [AV.labs, List.mem_append] at h
    simp [AV.ren, iha fun ℓ hl => h ℓ (.inl hl), ihb fun ℓ hl => h ℓ (.inr hl)]
  | agg cs ih => intro h; simp only [AV.labs] at h; simp [AV.ren, ih h]
  | tup cs ih => intro h; simp only [AV.labs] at h; simp [AV.ren, ih h]
  | dead => intro _; rfl
  | nil => rfl
  | cons a as iha ihas =>
    rename_i h
    simp only [AV.labs.labss, List.mem_append] at h
    simp [AV.ren.rens, iha fun ℓ hl => h ℓ (.inl hl), ihas fun ℓ hl => h ℓ (.inr hl)]
theorem blk_ren_id {ρ : Lab → Option Lab} {B : Blk} (h : ∀ ℓ ∈ B.labs, ρ ℓ = some ℓ) : B.ren ρ = B := by
  unfold Blk.ren
  split
  · rfl
  · rename_i hd
    have : AV.ren.rens ρ B.cells = B.cells := by
      unfold Blk.labs at h
      rw [if_neg hd] at h
      rw [rens_eq_map]
      conv => rhs; rw [← List.map_id B.cells]
      apply List.map_congr_left
      intro a ha
      exact ren_id fun ℓ hl => h ℓ (labss_mem.2 ⟨a, ha, hl⟩)
    rw [this]
theorem labs_ren {ρ : Lab → Option Lab} {a : AV} : ∀ ℓ' ∈ (a.ren ρ).labs, ∃ ℓ ∈ a.labs, ρ ℓ = some ℓ' := by
  induction a using AV.rec (motive_2 := fun as => ∀ ℓ' ∈ AV.labs.labss (AV.ren.rens ρ as), ∃ ℓ ∈ AV.labs.labss as, ρ ℓ = some ℓ') with
  | v x => simp [AV.ren, AV.labs]
  | ptr ℓ n off =>
    intro ℓ' h
    simp only [AV.ren] at h
    cases e : ρ ℓ with
    | none => simp [e, AV.labs] at h
    | some ℓ2 => simp only [e, AV.labs, List.mem_singleton] at h; subst h; exact ⟨ℓ, by simp [AV.labs], e⟩
  | own ℓ n off len esz cap =>
    intro ℓ' h
    simp only [AV.ren] at h
    cases e : ρ ℓ with
    | none => simp [e, AV.labs] at h
    | some ℓ2 => simp only [e, AV.labs, List.mem_singleton] at h; subst h; exact ⟨ℓ, by simp [AV.labs], e⟩
  | ro => simp [AV.ren, AV.labs]
  | rop => simp [AV.ren, AV.labs]
  | fn f a b iha ihb =>
    intro ℓ' h
    simp only [AV.ren, AV.labs, List.mem_append] at h ⊢
    rcases h with h | h
    · obtain ⟨ℓ, h1, h2⟩ := iha ℓ' h; exact ⟨ℓ, .inl h1, h2⟩
    · obtain ⟨ℓ, h1, h2⟩ := ihb ℓ' h; exact ⟨ℓ, .inr h1, h2⟩
  | agg cs ih => exact ih
  | tup cs ih => exact ih
  | dead => simp [AV.ren, AV.labs]
  | nil => rename_i h; simp [AV.ren.rens, AV.labs.labss] at h
  | cons a as iha ihas =>
    rename_i ℓ' h
    simp only [AV.ren.rens, AV.labs.labss, List.mem_append] at h ⊢
    rcases h with h | h
    · obtain ⟨ℓ, h1, h2⟩ := iha ℓ' h; exact ⟨ℓ, .inl h1, h2⟩
    · obtain ⟨ℓ, h1, h2⟩ := ihas ℓ' h; exact ⟨ℓ, .inr h1, h2⟩
theorem blk_labs_ren {ρ : Lab → Option Lab} {B : Blk} : ∀ ℓ' ∈ (B.ren ρ).labs, ∃ ℓ ∈ B.labs, ρ ℓ = some ℓ' := by
  intro ℓ' h
  unfold Blk.labs at h ⊢
  rw [Blk.ren_data] at h
  split at h
  · simp at h
  · rename_i hd
    rw [if_neg hd]
    unfold Blk.ren at h
    rw [if_neg hd] at h
    simp only [rens_eq_map, labss_mem, List.mem_map] at h
    obtain ⟨b, ⟨a, ha, rfl⟩, hl⟩ := h
    obtain ⟨ℓ, h1, h2⟩ := labs_ren ℓ' hl
    exact ⟨ℓ, labss_mem.2 ⟨a, ha, h1⟩, h2⟩
theorem get_o {G L : List (Option Blk)} {p : Nat} {B : Blk} : (⟨G, L⟩ : Hp).get (.o p) = some B ↔ G[p]? = some (some B) := by
  simp only [Hp.get]
  cases G[p]? with
  | none => simp
  | some x => simp
theorem get_l {G L : List (Option Blk)} {k : Nat} {B : Blk} : (⟨G, L⟩ : Hp).get (.l k) = some B ↔ L[k]? = some (some B) := by
  simp only [Hp.get]
  cases L[k]? with
  | none => simp
  | some x => simp
theorem okBlks_get : ∀ {L : List (Option Blk)} {n k : Nat} {B : Blk}, okBlks n L = true → L[k]? = some (some B) → B.labs.all (intoLt (n + k)) = true
  | [], n, k, B, h, hk => by simp at hk
  | some C :: L, n, 0, B, h, hk => by
    simp only [okBlks, Bool.and_eq_true] at h
    simp only [List.getElem?_cons_zero, Option.some.injEq] at hk
    subst hk; exact h.1
  | none :: L, n, 0, B, h, hk => by simp at hk
  | some C :: L, n, k + 1, B, h, hk => by
    simp only [okBlks, Bool.and_eq_true] at h
    have := okBlks_get (n := n + 1) h.2 (by simpa using hk : L[k]? = some (some B))
    rw [show n + (k + 1) = n + 1 + k by omega]; exact this
  | none :: L, n, k + 1, B, h, hk => by
    simp only [okBlks] at h
    have := okBlks_get (n := n + 1) h (by simpa using hk : L[k]? = some (some B))
    rw [show n + (k + 1) = n + 1 + k by omega]; exact this
theorem outBlks_get : ∀ {L : List (Option Blk)} {n k : Nat} {B : Blk}, outBlks n L = true → L[k]? = some (some B) → B.labs.all (labLt (n + k)) = true
  | [], n, k, B, h, hk => by simp at hk
  | some C :: L, n, 0, B, h, hk => by
    simp only [outBlks, Bool.and_eq_true] at h
    simp only [List.getElem?_cons_zero, Option.some.injEq] at hk
    subst hk; exact h.1
  | none :: L, n, 0, B, h, hk => by simp at hk
  | some C :: L, n, k + 1, B, h, hk => by
    simp only [outBlks, Bool.and_eq_true] at h
    have := outBlks_get (n := n + 1) h.2 (by simpa using hk : L[k]? = some (some B))
    rw [show n + (k + 1) = n + 1 + k by omega]; exact this
  | none :: L, n, k + 1, B, h, hk => by
    simp only [outBlks] at h
    have := outBlks_get (n := n + 1) h (by simpa using hk : L[k]? = some (some B))
    rw [show n + (k + 1) = n + 1 + k by omega]; exact this
theorem into_o (h : Hp) (p : Nat) : h.into[p]? = if p < h.G.length then h.G[p]? else (h.L[p - h.G.length]?).map (Option.map (Blk.ren (up h.G.length))) := by
  unfold Hp.into
  split
  · rename_i hp; rw [List.getElem?_append_left hp]
  · rename_i hp; rw [List.getElem?_append_right (by omega), List.getElem?_map]
def psiIn (g : Nat) : Lab → Lab
  | .o p => if p < g then .o p else .l (p - g)
  | .l k => .l k
theorem sim_into {base w0 w μ} {h : Hp} (S : Sim fid base w0 w μ h.get) (hO : Ord h.G) :
    Sim fid base w0 w (fun ℓ => μ (psiIn h.G.length ℓ)) (⟨h.into, []⟩ : Hp).get ∧ (∀ b, Wr (fun ℓ => μ (psiIn h.G.length ℓ)) (⟨h.into, []⟩ : Hp).get b → Wr μ h.get b) ∧
      (∀ ℓ I ℓ', info μ h.get ℓ = some I → up h.G.length ℓ = some ℓ' → info (fun ℓ => μ (psiIn h.G.length ℓ)) (⟨h.into, []⟩ : Hp).get ℓ' = some I) := by
  have hG : ∀ (p : Nat) (B : Blk), h.G[p]? = some (some B) → B.ren (up h.G.length) = B := by
    intro p B hB
    refine blk_ren_id fun ℓ hl => ?_
    have := List.all_eq_true.1 (hO p B hB) ℓ hl
    cases ℓ with
    | l k => simp [labLt] at this
    | o i => rfl
  refine S.relabel (up h.G.length) (psiIn h.G.length) (fun ℓ' B' hB' => ?_) (fun ℓ B ℓ' hB hr => ?_)
  · cases ℓ' with
    | l k => simp [Hp.get] at hB'
    | o p =>
      rw [get_o, into_o] at hB'
      simp only [psiIn]
      split at hB'
      · rename_i hp
        rw [if_pos hp]
        exact ⟨B', by rw [show h = ⟨h.G, h.L⟩ from rfl, get_o]; exact hB', (hG p B' hB').symm, rfl⟩
      · rename_i hp
        rw [if_neg hp]
        obtain ⟨x, hx, hx2⟩ := Option.map_eq_some_iff.1 hB'
        obtain ⟨B, rfl, rfl⟩ := Option.map_eq_some_iff.1 hx2
        refine ⟨B, by rw [show h = ⟨h.G, h.L⟩ from rfl, get_l]; exact hx, rfl, ?_⟩
        simp only [up, Option.some.injEq, Lab.o.injEq]
        omega
  · cases ℓ with
    | l k =>
      cases hr
      rw [show h = ⟨h.G, h.L⟩ from rfl, get_l] at hB
      refine ⟨by simp only [psiIn]; rw [if_neg (by omega)]; congr 1; omega, ?_⟩
      rw [get_o, into_o, if_neg (by omega), show h.G.length + k - h.G.length = k by omega, hB]
      rfl
    | o p =>
      cases hr
      rw [show h = ⟨h.G, h.L⟩ from rfl, get_o] at hB
      have hp : p < h.G.length := by
        by_cases hp : p < h.G.length
        · exact hp
        · rw [List.getElem?_eq_none (by omega)] at hB; cases hB
      refine ⟨by simp only [psiIn]; rw [if_pos hp], ?_⟩
      rw [get_o, into_o, if_pos hp, hG p B hB]
      exact hB
theorem ord_into {base w0 w μ} {h : Hp} (S : Sim fid base w0 w μ h.get) (hO : Ord h.G) (hk : okBlks 0 h.L = true) : Ord h.into := by
  intro p B hB
  rw [into_o] at hB
  split at hB
  · exact hO p B hB
  · rename_i hp
    obtain ⟨x, hx, hx2⟩ := Option.map_eq_some_iff.1 hB
    obtain ⟨C, rfl, rfl⟩ := Option.map_eq_some_iff.1 hx2
    have h1 := okBlks_get hk hx
    rw [List.all_eq_true] at h1 ⊢
    intro ℓ' hl'
    obtain ⟨ℓ, hl, hr⟩ := blk_labs_ren ℓ' hl'
    have h2 := h1 ℓ hl
    have hC : h.get (.l (p - h.G.length)) = some C := by rw [show h = ⟨h.G, h.L⟩ from rfl, get_l]; exact hx
    obtain ⟨I, hI⟩ := (S.ok.blk _ C hC).live ℓ hl
    cases ℓ with
    | l j =>
      cases hr
      simp only [intoLt, decide_eq_true_eq] at h2
      simp only [labLt, decide_eq_true_eq]
      omega
    | o i =>
      cases hr
      simp only [info] at hI
      obtain ⟨B0, hB0, _⟩ := Option.map_eq_some_iff.1 hI
      rw [show h = ⟨h.G, h.L⟩ from rfl, get_o] at hB0
      have : i < h.G.length := by
        by_cases hi : i < h.G.length
        · exact hi
        · rw [List.getElem?_eq_none (by omega)] at hB0; cases hB0
      simp only [labLt, decide_eq_true_eq]
      omega
theorem enter_get (G : List (Option Blk)) (n : Nat) : (⟨G, List.replicate n none⟩ : Hp).get = (⟨G, []⟩ : Hp).get := by
  funext ℓ
  cases ℓ with
  | l k =>
    simp only [Hp.get, List.getElem?_nil, Option.join_none]
    rw [List.getElem?_replicate]
    split <;> rfl
  | o p => rfl
theorem idxOf_get {K : List Nat} {k i : Nat} (h : K.idxOf? k = some i) : K[i]? = some k := by
  rw [List.idxOf?_eq_some_iff] at h
  obtain ⟨hlt, he, _⟩ := h
  rw [List.getElem?_eq_getElem hlt]
  simpa using he
theorem idxOf_nodup {K : List Nat} {i : Nat} {k : Nat} (hn : K.Nodup) (h : K[i]? = some k) : K.idxOf? k = some i := by
  have hm : k ∈ K := List.mem_of_getElem? h
  cases hf : K.idxOf? k with
  | none => simp [List.idxOf?_eq_none_iff] at hf; exact absurd hm hf
  | some j =>
    have hj := idxOf_get hf
    have := (List.getElem?_inj (by
      by_cases hi : i < K.length
      · exact hi
      · rw [List.getElem?_eq_none (by omega)] at h; cases h) hn).1 (h.trans hj.symm)
    rw [this]
def psiOut (g : Nat) (K : List Nat) : Lab → Lab
  | .o p => if p < g then .o p else .l (K.getD (p - g) 0)
  | .l k => .l k
theorem sim_leave {base w0 w μ} {h : Hp} (S : Sim fid base w0 w μ h.get) (hO : Ord h.G) {x r r' G'} (R : Rep fid w (Wr μ h.get) (info μ h.get) x r) (hl : h.leave r = some (r', G')) :
    ∃ μ', Sim fid base w0 w μ' (⟨G', []⟩ : Hp).get ∧ (∀ b, Wr μ' (⟨G', []⟩ : Hp).get b → Wr μ h.get b) ∧ Rep fid w (Wr μ' (⟨G', []⟩ : Hp).get) (info μ' (⟨G', []⟩ : Hp).get) x r' ∧
      (∀ p I, info μ h.get (.o p) = some I → info μ' (⟨G', []⟩ : Hp).get (.o p) = some I) ∧ Ord G' := by
  unfold Hp.leave at hl
  simp only at hl
  generalize hK : (collect h 40 r.labs []).reverse = K at hl
  split at hl <;> cases hl
  rename_i hc
  obtain ⟨hout, hnd⟩ := hc
  have hgG : ∀ (p : Nat) (B : Blk), h.G[p]? = some (some B) → B.ren (keepMap h.G.length K) = B := by
    intro p B hB
    refine blk_ren_id fun ℓ hl => ?_
    have := List.all_eq_true.1 (hO p B hB) ℓ hl
    cases ℓ with
    | l k => simp [labLt] at this
    | o i => rfl
  have hget : ∀ p, (h.G ++ K.map fun k => ((h.L[k]?).join).map (Blk.ren (keepMap h.G.length K)))[p]? =
      if p < h.G.length then h.G[p]? else (K[p - h.G.length]?).map fun k => ((h.L[k]?).join).map (Blk.ren (keepMap h.G.length K)) := by
    intro p
    split
    · rename_i hp; rw [List.getElem?_append_left hp]
    · rename_i hp; rw [List.getElem?_append_right (by omega), List.getElem?_map]
  obtain ⟨S', hW, hI⟩ := S.relabel (get' := (⟨h.G ++ K.map fun k => ((h.L[k]?).join).map (Blk.ren (keepMap h.G.length K)), []⟩ : Hp).get) (keepMap h.G.length K) (psiOut h.G.length K)
    (fun ℓ' B' hB' => by
      cases ℓ' with
      | l k => simp [Hp.get] at hB'
      | o p =>
        rw [get_o, hget] at hB'
        simp only [psiOut]
        split at hB'
        · rename_i hp
          rw [if_pos hp]
          exact ⟨B', by rw [show h = ⟨h.G, h.L⟩ from rfl, get_o]; exact hB', (hgG p B' hB').symm, rfl⟩
        · rename_i hp
          rw [if_neg hp]
          obtain ⟨k, hk, hk2⟩ := Option.map_eq_some_iff.1 hB'
          obtain ⟨B, hB, rfl⟩ := Option.map_eq_some_iff.1 hk2
          have hd : K.getD (p - h.G.length) 0 = k := by rw [List.getD_eq_getElem?_getD, hk]; rfl
          rw [hd]
          refine ⟨B, hB, rfl, ?_⟩
          simp only [keepMap, idxOf_nodup hnd hk, Option.map_some, Option.some.injEq, Lab.o.injEq]
          omega)
    (fun ℓ B ℓ' hB hr => by
      cases ℓ with
      | o p =>
        cases hr
        rw [show h = ⟨h.G, h.L⟩ from rfl, get_o] at hB
        have hp : p < h.G.length := by
          by_cases hp : p < h.G.length
          · exact hp
          · rw [List.getElem?_eq_none (by omega)] at hB; cases hB
        refine ⟨by simp only [psiOut]; rw [if_pos hp], ?_⟩
        rw [get_o, hget, if_pos hp, hgG p B hB]
        exact hB
      | l k =>
        simp only [keepMap] at hr
        obtain ⟨i, hi, rfl⟩ := Option.map_eq_some_iff.1 hr
        have hki := idxOf_get hi
        refine ⟨?_, ?_⟩
        · simp only [psiOut]
          rw [if_neg (by omega), show h.G.length + i - h.G.length = i by omega, List.getD_eq_getElem?_getD, hki]
          rfl
        · rw [get_o, hget, if_neg (by omega), show h.G.length + i - h.G.length = i by omega, hki]
          simp only [Option.map_some, Option.some.injEq]
          simp only [Hp.get] at hB
          rw [hB]; rfl)
  refine ⟨_, S', hW, R.relabel _ hW hI, fun p I hp => hI _ I _ hp rfl, fun p B hB => ?_⟩
  rw [hget] at hB
  split at hB
  · exact hO p B hB
  · rename_i hp
    have := outBlks_get hout (k := p - h.G.length) (B := B) (by rw [List.getElem?_map]; exact hB)
    rwa [show h.G.length + (p - h.G.length) = p by omega] at this
end Go.AM
namespace Go.AM
open Go.RowKit
variable {fid : String → Option FuncId} {P : Program}
theorem putAll_get : ∀ {ks : List Nat} {Bs L : List (Option Blk)} (k : Nat), ks.Nodup → ks.length = Bs.length → (∀ j ∈ ks, j < L.length) →
    (putAll L ks Bs)[k]? = match ks.idxOf? k with | some j => Bs[j]? | none => L[k]?
  | [], Bs, L, k, _, _, _ => by simp [putAll]
  | j :: ks, [], L, k, _, hl, _ => by simp at hl
  | j :: ks, B :: Bs, L, k, hn, hl, hlt => by
    obtain ⟨hj, hn'⟩ := List.nodup_cons.1 hn
    have ih := putAll_get (ks := ks) (Bs := Bs) (L := L.set j B) k hn' (by simpa using hl) (fun i hi => by simpa using hlt i (by simp [hi]))
    simp only [putAll]
    rw [ih, List.idxOf?_cons]
    by_cases e : j = k
    · subst e
      have : ks.idxOf? j = none := by simpa [List.idxOf?_eq_none_iff] using hj
      simp [this, hlt j (by simp)]
    · have e' : (j == k) = false := by simpa using e
      rw [e']
      cases hf : ks.idxOf? k with
      | none => simp [e]
      | some i => simp
def psiBack (g s : Nat) (sites : List Nat) : Lab → Lab
  | .o p => if p < g then .o p else .l p
  | .l k => match sites.idxOf? k with
    | some j => .o (g + s + j)
    | none => .o (g + k)
theorem free_get {L : List (Option Blk)} {k : Nat} (h : free L k = true) : L[k]? = some none := by
  unfold free at h
  split at h
  · assumption
  · cases h
theorem sim_back0 {base w0 w1 μ1} {h h' : Hp} {G2 : List (Option Blk)} {sites : List Nat} (S : Sim fid base w0 w1 μ1 (⟨G2, []⟩ : Hp).get) (hO : Ord G2) {x r a}
    (R : Rep fid w1 (Wr μ1 (⟨G2, []⟩ : Hp).get) (info μ1 (⟨G2, []⟩ : Hp).get) x r) (hb : h.back0 sites G2 r = some (a, h')) :
    ∃ μ', Sim fid base w0 w1 μ' h'.get ∧ (∀ b, Wr μ' h'.get b → Wr μ1 (⟨G2, []⟩ : Hp).get b) ∧ Rep fid w1 (Wr μ' h'.get) (info μ' h'.get) x a ∧ Ord h'.G ∧
      ∀ ℓ ℓc I, (∃ B, h.get ℓ = some B) → up h.G.length ℓ = some ℓc → info μ1 (⟨G2, []⟩ : Hp).get ℓc = some I → info μ' h'.get ℓ = some I := by
  unfold Hp.back0 at hb
  simp only at hb
  split at hb <;> cases hb
  rename_i hc
  obtain ⟨hlen, hnd, hf1, hf2⟩ := hc
  generalize hg0 : h.G.length = g at *
  generalize hs0 : h.L.length = s at *
  have hlt : ∀ k ∈ sites, k < s := by
    intro k hk
    have := free_get (List.all_eq_true.1 hf1 k hk)
    rw [← hs0]
    by_cases hk2 : k < h.L.length
    · exact hk2
    · rw [List.getElem?_eq_none (by omega)] at this; cases this
  have hGid : ∀ (p : Nat) (B : Blk), p < g → G2[p]? = some (some B) → B.ren (down g s sites) = B := by
    intro p B hp hB
    refine blk_ren_id fun ℓ hl => ?_
    have := List.all_eq_true.1 (hO p B hB) ℓ hl
    cases ℓ with
    | l k => simp [labLt] at this
    | o i =>
      simp only [labLt, decide_eq_true_eq] at this
      simp only [down]
      rw [if_pos (by omega)]
  have hL : ∀ k, (putAll (((G2.drop g).take s).map (Option.map (Blk.ren (down g s sites)))) sites ((G2.drop (g + s)).map (Option.map (Blk.ren (down g s sites)))))[k]? =
      match sites.idxOf? k with
      | some j => (G2[g + s + j]?).map (Option.map (Blk.ren (down g s sites)))
      | none => if k < s then (G2[g + k]?).map (Option.map (Blk.ren (down g s sites))) else none := by
    intro k
    rw [putAll_get k hnd (by simp; omega) (fun j hj => by simp; have := hlt j hj; omega)]
    cases sites.idxOf? k with
    | some j => simp only [List.getElem?_map, List.getElem?_drop]
    | none =>
      simp only [List.getElem?_map, List.getElem?_take]
      split
      · rw [List.getElem?_drop]
      · rfl
  obtain ⟨S', hW, hI⟩ := S.relabel (get' := (⟨G2.take g, putAll (((G2.drop g).take s).map (Option.map (Blk.ren (down g s sites)))) sites ((G2.drop (g + s)).map (Option.map (Blk.ren (down g s sites))))⟩ : Hp).get)
    (down g s sites) (psiBack g s sites)
    (fun ℓ' B' hB' => by
      cases ℓ' with
      | o p =>
        rw [get_o, List.getElem?_take] at hB'
        split at hB'
        · rename_i hp
          refine ⟨B', by simp only [psiBack]; rw [if_pos hp, get_o]; exact hB', (hGid p B' hp hB').symm, ?_⟩
          simp only [psiBack]
          rw [if_pos hp]
          simp only [down]
          rw [if_pos hp]
        · cases hB'
      | l k =>
        rw [get_l, hL] at hB'
        cases hk : sites.idxOf? k with
        | some j =>
          simp only [hk] at hB'
          obtain ⟨y, hy, hy2⟩ := Option.map_eq_some_iff.1 hB'
          obtain ⟨B, rfl, rfl⟩ := Option.map_eq_some_iff.1 hy2
          refine ⟨B, by simp only [psiBack, hk]; rw [get_o]; exact hy, rfl, ?_⟩
          simp only [psiBack, hk, down]
          rw [if_neg (by omega), if_neg (by omega), show g + s + j - (g + s) = j by omega, idxOf_get hk]
          rfl
        | none =>
          simp only [hk] at hB'
          split at hB' <;> first | (cases hB'; done) | skip
          rename_i hks
          obtain ⟨y, hy, hy2⟩ := Option.map_eq_some_iff.1 hB'
          obtain ⟨B, rfl, rfl⟩ := Option.map_eq_some_iff.1 hy2
          refine ⟨B, by simp only [psiBack, hk]; rw [get_o]; exact hy, rfl, ?_⟩
          simp only [psiBack, hk, down]
          rw [if_neg (by omega), if_pos (by omega), show g + k - g = k by omega])
    (fun ℓ B ℓ' hB hr => by
      cases ℓ with
      | l k => simp [Hp.get] at hB
      | o p =>
        rw [get_o] at hB
        have hp2 : p < G2.length := by
          by_cases hp : p < G2.length
          · exact hp
          · rw [List.getElem?_eq_none (by omega)] at hB; cases hB
        simp only [down] at hr
        split at hr
        · rename_i hp
          cases hr
          refine ⟨by simp only [psiBack]; rw [if_pos hp], ?_⟩
          rw [get_o, List.getElem?_take, if_pos hp, hGid p B hp hB]
          exact hB
        · rename_i hp
          split at hr
          · rename_i hp3
            cases hr
            have hns : sites.idxOf? (p - g) = none := by
              rw [List.idxOf?_eq_none_iff]
              intro hm
              have := free_get (List.all_eq_true.1 hf2 _ hm)
              rw [show g + (p - g) = p by omega, hB] at this
              cases this
            refine ⟨by simp only [psiBack, hns]; congr 1; omega, ?_⟩
            rw [get_l, hL, hns]
            simp only
            rw [if_pos (by omega), show g + (p - g) = p by omega, hB]
            rfl
          · rename_i hp3
            obtain ⟨k, hk, rfl⟩ := Option.map_eq_some_iff.1 hr
            have hki := idxOf_nodup hnd hk
            refine ⟨by simp only [psiBack, hki]; congr 1; omega, ?_⟩
            rw [get_l, hL, hki]
            simp only
            rw [show g + s + (p - (g + s)) = p by omega, hB]
            rfl)
  refine ⟨_, S', hW, R.relabel _ hW hI, fun p B hB => ?_, fun ℓ ℓc I hB hu hi => ?_⟩
  · rw [List.getElem?_take] at hB
    split at hB
    · exact hO p B hB
    · cases hB
  · refine hI ℓc I ℓ hi ?_
    obtain ⟨B, hB⟩ := hB
    cases ℓ with
    | o p =>
      cases hu
      rw [show h = ⟨h.G, h.L⟩ from rfl, get_o] at hB
      have : p < g := by
        rw [← hg0]
        by_cases hp : p < h.G.length
        · exact hp
        · rw [List.getElem?_eq_none (by omega)] at hB; cases hB
      simp only [down]
      rw [if_pos this]
    | l k =>
      cases hu
      rw [show h = ⟨h.G, h.L⟩ from rfl, get_l] at hB
      have : k < s := by
        rw [← hs0]
        by_cases hp : k < h.L.length
        · exact hp
        · rw [List.getElem?_eq_none (by omega)] at hB; cases hB
      simp only [down]
      rw [if_neg (by omega), if_pos (by omega), show g + k - g = k by omega]
theorem padTo_get {n : Nat} {G : List (Option Blk)} : (⟨padTo n G, []⟩ : Hp).get = (⟨G, []⟩ : Hp).get := by
  funext ℓ
  cases ℓ with
  | l k => rfl
  | o p =>
    simp only [Hp.get, padTo]
    by_cases hp : p < G.length
    · rw [List.getElem?_append_left hp]
    · rw [List.getElem?_append_right (by omega), List.getElem?_eq_none (l := G) (by omega), List.getElem?_replicate]
      split <;> rfl
theorem padTo_ord {n : Nat} {G : List (Option Blk)} (h : Ord G) : Ord (padTo n G) := by
  intro p B hB
  refine h p B ?_
  have := congrFun (padTo_get (n := n) (G := G)) (.o p)
  simp only [Hp.get, hB, Option.join_some] at this
  cases hg : G[p]? with
  | none => rw [hg] at this; simp at this
  | some x => rw [hg] at this; simp at this; rw [this]
theorem sim_back {base w0 w1 μ1} {h h' : Hp} {G2 : List (Option Blk)} {sites : List Nat} (S : Sim fid base w0 w1 μ1 (⟨G2, []⟩ : Hp).get) (hO : Ord G2) {x r a}
    (R : Rep fid w1 (Wr μ1 (⟨G2, []⟩ : Hp).get) (info μ1 (⟨G2, []⟩ : Hp).get) x r) (hb : h.back sites G2 r = some (a, h')) :
    ∃ μ', Sim fid base w0 w1 μ' h'.get ∧ (∀ b, Wr μ' h'.get b → Wr μ1 (⟨G2, []⟩ : Hp).get b) ∧ Rep fid w1 (Wr μ' h'.get) (info μ' h'.get) x a ∧ Ord h'.G ∧
      ∀ ℓ ℓc I, (∃ B, h.get ℓ = some B) → up h.G.length ℓ = some ℓc → info μ1 (⟨G2, []⟩ : Hp).get ℓc = some I → info μ' h'.get ℓ = some I := by
  unfold Hp.back at hb
  split at hb
  · rw [← padTo_get (n := h.G.length + h.L.length + sites.length) (G := G2)] at S R ⊢
    exact sim_back0 S (padTo_ord hO) R hb
  · cases hb
end Go.AM
namespace Go.AM
open Go.RowKit
section
variable (P : Program) (fid : String → Option FuncId) (base : Nat) (w0 : World)
def OpSem (p : Prim) (xs : List AV) (h : Hp) (r : AV) (h' : Hp) : Prop :=
  ∀ (o : Op) (ty : TypeId) (a : Act) (env : List AV) (ixs : List Opd) (w : World) (μ : Lab → Nat × Nat), ixs.map (evalO env) = xs → chkOp P fid o p ixs = true →
    Sim fid base w0 w μ h.get → Ord h.G → Reps fid w (Wr μ h.get) (info μ h.get) a.tmps.toList env →
    ∀ (dst : Option Tmp) (pos : String) (after : Array Edge) (guard : Option (Nat × Bool)) (K : Act → World → Prop) (Q : Exit → Act → World → Prop),
      (∀ y w', Post fid base w0 w μ h.get w' h'.get y r → Ord h'.G → K (a.put dst y) w') → Oper.wp P ⟨dst, o, ty, pos, after, guard⟩ a w K Q
def CallSem (f : String) (args : List AV) (G : List (Option Blk)) (r : AV) (G2 : List (Option Blk)) : Prop :=
  ∃ id fn, fid f = some id ∧ P.funcs[id]? = some fn ∧ fn.name ≠ "runtime.NumGoroutine" ∧ fn.body.isSome = true ∧
    ∀ (vs : List Value) (w : World) (μ : Lab → Nat × Nat), Sim fid base w0 w μ (⟨G, []⟩ : Hp).get → Ord G → Reps fid w (Wr μ (⟨G, []⟩ : Hp).get) (info μ (⟨G, []⟩ : Hp).get) vs args →
      Calls P id vs.toArray w fun e w' => ∃ y, e = .returned y ∧ Post fid base w0 w μ (⟨G, []⟩ : Hp).get w' (⟨G2, []⟩ : Hp).get y r ∧ Ord G2
end
variable {P : Program} {fid : String → Option FuncId} {base : Nat} {w0 : World}
theorem op_of_prim {p xs h r h'} (hp : prim h p xs = some (r, h')) : OpSem P fid base w0 p xs h r h' := by
  intro o ty a env ixs w μ hxs hc S hO E dst pos after guard K Q hK
  subst hxs
  obtain ⟨y, w', hran, hpost⟩ := prim_sound (ty := ty) S E hc hp
  have hO' := prim_ord S.dataOK hO hp
  have := hK y w' hpost hO'
  unfold Oper.wp
  rcases hran dst pos after guard with h | ⟨h, rfl⟩
  · rw [h]; exact this
  · rw [h]; exact this
theorem run_callFunc {id fn} (hf : P.funcs[id]? = some fn) (hn : fn.name ≠ "runtime.NumGoroutine") (hb : fn.body.isSome = true) (args : Array Value) (w : World) :
    (callFunc id args).run P w = .ok (.enter id args) w := by
  have h1 : (fn.name == "runtime.NumGoroutine") = false := by simpa using hn
  have h2 : fn.body.isNone = false := by cases h : fn.body <;> simp_all
  simp only [callFunc, Sem.run_bind, run_program, Result.andThen_ok, hf, h1, h2, Bool.false_eq_true, if_false, Sem.run_pure]
theorem call_back {w w' : World} {μ μ2 : Lab → Nat × Nat} {h h' : Hp} {G2 : List (Option Blk)} {sites y r a} (S : Sim fid base w0 w μ h.get) (hO : Ord h.G)
    (hpost : Post fid base w0 w (fun ℓ => μ (psiIn h.G.length ℓ)) (⟨h.into, []⟩ : Hp).get w' (⟨G2, []⟩ : Hp).get y r) (hO2 : Ord G2) (hb : h.back sites G2 r = some (a, h')) :
    Post fid base w0 w μ h.get w' h'.get y a ∧ Ord h'.G := by
  obtain ⟨_, hWc, hIc⟩ := sim_into S hO
  obtain ⟨μ2, S2, p2, R2⟩ := hpost
  obtain ⟨μ', S', hW', R', hO', hI'⟩ := sim_back S2 hO2 R2 hb
  refine ⟨⟨μ', S', ⟨fun b hb hW => p2.heap b hb fun h => hW (hWc b h), fun b hb hW => hWc b (p2.wr b hb (hW' b hW)), fun ℓ I hI => ?_, p2.size⟩, R'⟩, hO'⟩
  obtain ⟨ℓc, hu⟩ : ∃ ℓc, up h.G.length ℓ = some ℓc := by cases ℓ <;> exact ⟨_, rfl⟩
  obtain ⟨I2, hI2, e⟩ := p2.lab ℓc I (hIc ℓ I ℓc hI hu)
  refine ⟨I2, hI' ℓ ℓc I2 ?_ hu hI2, e⟩
  simp only [info] at hI
  obtain ⟨B, hB, _⟩ := Option.map_eq_some_iff.1 hI
  exact ⟨B, hB⟩
theorem op_of_call {f sites xs h r G2 a h'} (hi : okBlks 0 h.L = true) (hc : CallSem P fid base w0 f (xs.map (AV.ren (up h.G.length))) h.into r G2) (hb : h.back sites G2 r = some (a, h')) :
    OpSem P fid base w0 (.call f sites) xs h a h' := by
  intro o ty act env ixs w μ hxs hck S hO E dst pos after guard K Q hK
  subst hxs
  obtain ⟨id, fn, hf, hfn, hname, hbody, hcalls⟩ := hc
  cases o <;> simp only [chkOp, Bool.false_eq_true] at hck
  rename_i c
  obtain ⟨callee, args, ats⟩ := c
  simp only [Bool.and_eq_true] at hck
  obtain ⟨hco, hx⟩ := hck
  unfold callOK at hco
  split at hco <;> first | (cases hco; done) | skip
  rename_i g
  simp only [beq_iff_eq] at hco
  rw [hf] at hco
  cases hco
  have R := opds_sound E hx
  obtain ⟨Sc, hWc, hIc⟩ := sim_into S hO
  have Rc := R.relabel (up h.G.length) hWc hIc
  have hcall := hcalls _ w _ Sc (ord_into S hO hi) Rc
  have hargs : (args.map act.eval) = (args.toList.map act.eval).toArray := by apply Array.toList_inj.1; simp
  have hrun : (execOp act.eval ⟨dst, .call ⟨.value (.func id), args, ats⟩, ty, pos, after, guard⟩).run P w = .ok (.enter id (args.toList.map act.eval).toArray) w := by
    simp only [execOp, resolve, Act.eval, Deferred.ofValue, Sem.run_bind, Sem.run_pure, Result.andThen_ok, invoke]
    rw [run_callFunc hfn hname hbody]
    rw [show (#[] ++ Array.map act.eval args ++ #[] : Array Value) = (args.toList.map act.eval).toArray by rw [hargs]; simp]
  unfold Oper.wp
  rw [hrun]
  refine Calls.mono hcall ?_
  rintro e w' ⟨y, rfl, hpost, hO2⟩
  obtain ⟨hp2, hO'⟩ := call_back (μ2 := μ) S hO hpost hO2 hb
  exact hK y w' hp2 hO'
theorem op_of_callV {f first caps sites xs h r G2 a h'} (hi : okBlks 0 h.L = true) (hc : CallSem P fid base w0 f ((first ++ xs ++ caps).map (AV.ren (up h.G.length))) h.into r G2)
    (hb : h.back sites G2 r = some (a, h')) : OpSem P fid base w0 (.callV sites) (.fn f first caps :: xs) h a h' := by
  intro o ty act env ixs w μ hxs hck S hO E dst pos after guard K Q hK
  obtain ⟨id, fn, hf, hfn, hname, hbody, hcalls⟩ := hc
  cases o <;> simp only [chkOp, Bool.false_eq_true] at hck
  rename_i c
  obtain ⟨callee, args, ats⟩ := c
  simp only at hck
  split at hck <;> first | (cases hck; done) | skip
  rename_i g
  have R := opds_sound E hck
  rw [hxs, List.map_cons] at R
  obtain ⟨Sc, hWc, hIc⟩ := sim_into S hO
  have R0 := R.head
  have Rt := R.tail
  generalize hg : act.eval g = gv at R0
  cases R0 with
  | @fn _ id' _ _ fs cs hf' h1 hc1 h2 hc2 =>
    rw [hf] at hf'
    cases hf'
    have R1 : Reps fid w (Wr μ h.get) (info μ h.get) (fs ++ args.toList.map act.eval ++ cs) (first ++ xs ++ caps) := (Reps.append ⟨h1, hc1⟩ Rt).append ⟨h2, hc2⟩
    have Rc := R1.relabel (up h.G.length) hWc hIc
    have hcall := hcalls _ w _ Sc (ord_into S hO hi) Rc
    have hrun : (execOp act.eval ⟨dst, .call ⟨.value g, args, ats⟩, ty, pos, after, guard⟩).run P w = .ok (.enter id (fs ++ args.toList.map act.eval ++ cs).toArray) w := by
      simp only [execOp, resolve, hg, Deferred.ofValue, Sem.run_bind, Sem.run_pure, Result.andThen_ok, invoke]
      rw [run_callFunc hfn hname hbody]
      rw [show (fs.toArray ++ Array.map act.eval args ++ cs.toArray : Array Value) = (fs ++ args.toList.map act.eval ++ cs).toArray by apply Array.toList_inj.1; simp]
    unfold Oper.wp
    rw [hrun]
    refine Calls.mono hcall ?_
    rintro e w' ⟨y, rfl, hpost, hO2⟩
    obtain ⟨hp2, hO'⟩ := call_back (μ2 := μ) S hO hpost hO2 hb
    exact hK y w' hp2 hO'
end Go.AM
namespace Go.AM
open Go.RowKit
section
variable (P : Program) (fid : String → Option FuncId) (base : Nat) (w0 : World)
def ItemSem (i : IOp) (args : List AV) (h : Hp) (a : AV) (h' : Hp) : Prop :=
  (i.p.free = true ∧ h' = h ∧ ∀ h'', OpSem P fid base w0 i.p args h'' a h'') ∨
  (∃ k, i.p.home = some k ∧ h' = h ∧ ∀ h'' : Hp, h''.L[k]? = h.L[k]? → OpSem P fid base w0 i.p args h'' a h'') ∨
  (i.p.free = false ∧ i.p.home = none ∧ (∀ X, okX h.G.length X → OpSem P fid base w0 i.p args (h.over i.u X) a (h'.over i.u X)) ∧ (i.loud = true ∨ ∃ C, okX h.G.length C ∧ h' = h.over i.turns C) ∧ (∀ k ∈ i.u, h'.L[k]? = h.L[k]?) ∧
    ∀ k B, k ∈ i.u ++ i.turns → h.L[k]? = some (some B) → B.labs.all (refLt h.G.length k) = true)
def putE (env : List AV) (dst : Option Nat) (a : AV) : List AV := match dst with | some d => env.set d a | none => env
def guardE (env : List AV) (g : Option (Nat × Bool)) : Option Bool := St.guard ⟨env, ⟨[], []⟩⟩ g
def StepSem (i : IOp) (env : List AV) (h : Hp) (env' : List AV) (h' : Hp) : Prop :=
  (guardE env i.guard = some false ∧ env' = putE env i.dst (.v undef) ∧ h' = h) ∨
  (guardE env i.guard = some true ∧ ∃ a, ItemSem P fid base w0 i (i.xs.map (evalO env)) h a h' ∧ env' = putE env i.dst a)
def DrawSem : List IOp → List AV → Hp → List AV → Hp → Prop
  | [], env, h, env', h' => env' = env ∧ h' = h
  | i :: l, env, h, env', h' => ∃ e1 h1, StepSem P fid base w0 i env h e1 h1 ∧ DrawSem l e1 h1 env' h'
end
variable {P : Program} {fid : String → Option FuncId} {base : Nat} {w0 : World}
theorem over_get (L : List (Option Blk)) (X : Nat → Option Blk) : ∀ (u : List Nat) (k : Nat), (over L u X)[k]? = if k ∈ u ∧ k < L.length then some (X k) else L[k]? := by
  intro u
  unfold over
  induction u generalizing L with
  | nil => intro k; simp
  | cons j u ih =>
    intro k
    rw [List.foldl_cons, ih]
    simp only [List.length_set, List.mem_cons, List.getElem?_set]
    by_cases h1 : k ∈ u ∧ k < L.length
    · rw [if_pos h1, if_pos ⟨.inr h1.1, h1.2⟩]
    · rw [if_neg h1]
      by_cases h2 : j = k
      · subst h2
        by_cases h3 : j < L.length
        · simp [h3]
        · simp [h3]
      · have h3 : ¬ ((k = j ∨ k ∈ u) ∧ k < L.length) := by
          rintro ⟨h4 | h4, h5⟩
          · exact h2 h4.symm
          · exact h1 ⟨h4, h5⟩
        rw [if_neg h2, if_neg h3]
theorem over_length (L : List (Option Blk)) (X : Nat → Option Blk) (u : List Nat) : (over L u X).length = L.length := by
  unfold over
  induction u generalizing L with
  | nil => rfl
  | cons j u ih => rw [List.foldl_cons, ih]; simp
theorem Hp.over_ext {h1 h2 : Hp} (hG : h1.G = h2.G) (hL : ∀ k : Nat, h1.L[k]? = h2.L[k]?) : h1 = h2 := by
  cases h1; cases h2
  simp only [Hp.mk.injEq] at *
  exact ⟨hG, List.ext_getElem? hL⟩
theorem over_over (h : Hp) (w u : List Nat) (C X : Nat → Option Blk) (hs : ∀ k ∈ w, k ∈ u) : (h.over w C).over u X = h.over u X := by
  refine Hp.over_ext rfl fun k => ?_
  simp only [Hp.over, over_get, over_length]
  by_cases h1 : k ∈ u ∧ k < h.L.length
  · rw [if_pos h1, if_pos h1]
  · rw [if_neg h1, if_neg h1]
    by_cases h2 : k ∈ w ∧ k < h.L.length
    · exact absurd ⟨hs k h2.1, h2.2⟩ h1
    · rw [if_neg h2]
theorem over_comm (h : Hp) (w u : List Nat) (C X : Nat → Option Blk) (hs : ∀ k ∈ w, k ∉ u) : (h.over w C).over u X = (h.over u X).over w C := by
  refine Hp.over_ext rfl fun k => ?_
  simp only [Hp.over, over_get, over_length]
  by_cases h1 : k ∈ u
  · by_cases h2 : k ∈ w
    · exact absurd h1 (hs k h2)
    · simp [h1, h2]
  · simp [h1]
theorem evalO_put {env : List AV} {x : Opd} {dst : Option Nat} {a : AV} (h : ∀ n, x = .t n → dst ≠ some n) : evalO (putE env dst a) x = evalO env x := by
  cases x with
  | t n =>
    cases dst with
    | none => rfl
    | some d =>
      have : d ≠ n := fun e => h n rfl (by rw [e])
      simp [evalO, putE, this]
  | c x => rfl
  | f g => rfl
theorem args_put {env : List AV} {i j : IOp} {a : AV} (h : ∀ t ∈ i.writes, ¬ (j.reads ++ j.writes).contains t = true) :
    j.xs.map (evalO (putE env i.dst a)) = j.xs.map (evalO env) := by
  apply List.map_congr_left
  intro x hx
  refine evalO_put fun n hn e => ?_
  refine h n (by simp [IOp.writes, e]) ?_
  simp only [List.contains_eq_mem, List.mem_append, decide_eq_true_eq]
  left
  simp only [IOp.reads, List.mem_append, List.mem_filterMap]
  left
  exact ⟨x, hx, by rw [hn]⟩
theorem guard_put {env : List AV} {i j : IOp} {a : AV} (h : ∀ t ∈ i.writes, ¬ (j.reads ++ j.writes).contains t = true) :
    guardE (putE env i.dst a) j.guard = guardE env j.guard := by
  cases hg : j.guard with
  | none => rfl
  | some g =>
    obtain ⟨t, b⟩ := g
    cases hd : i.dst with
    | none => rfl
    | some d =>
      have hne : d ≠ t := by
        intro e
        refine h d (by simp [IOp.writes, hd]) ?_
        simp only [List.contains_eq_mem, List.mem_append, decide_eq_true_eq]
        left
        simp [IOp.reads, hg, e]
      simp only [guardE, St.guard, putE, List.getD_eq_getElem?_getD, List.getElem?_set, if_neg hne]
theorem put_comm {env : List AV} {i j : IOp} {a b : AV} (h : ∀ t ∈ i.writes, ¬ (j.reads ++ j.writes).contains t = true) :
    putE (putE env i.dst a) j.dst b = putE (putE env j.dst b) i.dst a := by
  cases hi : i.dst with
  | none => rfl
  | some d =>
    cases hj : j.dst with
    | none => rfl
    | some e =>
      have hne : d ≠ e := by
        intro e2
        refine h d (by simp [IOp.writes, hi]) ?_
        simp only [List.contains_eq_mem, List.mem_append, decide_eq_true_eq]
        right
        simp [IOp.writes, hj, e2]
      simp only [putE]
      exact List.set_comm _ _ hne
theorem apart_iff {i j : IOp} (h : apart i j = true) : (∀ t ∈ i.writes, ¬ (j.reads ++ j.writes).contains t = true) ∧ (∀ t ∈ j.writes, ¬ (i.reads ++ i.writes).contains t = true) ∧
    (i.p.free = true ∨ j.p.free = true ∨ (∃ k k', i.p.home = some k ∧ j.p.home = some k') ∨ (∃ k, i.p.home = some k ∧ j.p.home = none ∧ k ∈ j.u) ∨ (∃ k, i.p.home = none ∧ j.p.home = some k ∧ k ∈ i.u) ∨ (i.p.home = none ∧ j.p.home = none ∧ i.loud = false ∧ j.loud = false ∧ (∀ k ∈ i.turns, k ∈ j.u ∧ k ∉ i.u) ∧ (∀ k ∈ j.turns, k ∈ i.u ∧ k ∉ j.u))) := by
  unfold apart at h
  simp only [Bool.and_eq_true, Bool.or_eq_true, List.all_eq_true, Bool.not_eq_true'] at h
  obtain ⟨⟨h1, h2⟩, h3⟩ := h
  refine ⟨fun t ht => by rw [h1 t ht]; simp, fun t ht => by rw [h2 t ht]; simp, ?_⟩
  rcases h3 with (h3 | h3) | h3
  · exact .inl h3
  · exact .inr (.inl h3)
  · right; right
    split at h3
    · rename_i k k' e1 e2; exact .inl ⟨k, k', e1, e2⟩
    · rename_i k e1 e2; exact .inr (.inl ⟨k, e1, e2, by simpa [List.contains_eq_mem] using h3⟩)
    · rename_i k e1 e2; exact .inr (.inr (.inl ⟨k, e1, e2, by simpa [List.contains_eq_mem] using h3⟩))
    · rename_i e1 e2
      simp only [Bool.and_eq_true, List.all_eq_true, Bool.not_eq_true'] at h3
      obtain ⟨⟨⟨h3, h4⟩, h5⟩, h6⟩ := h3
      refine .inr (.inr (.inr ⟨e1, e2, h3, h4, fun k hk => ?_, fun k hk => ?_⟩))
      · have := h5 k hk; simpa [List.contains_eq_mem] using this
      · have := h6 k hk; simpa [List.contains_eq_mem] using this
theorem step_swap {i j : IOp} {e e1 e2 : List AV} {h h1 h2 : Hp} (hap : apart i j = true) (s1 : StepSem P fid base w0 i e h e1 h1) (s2 : StepSem P fid base w0 j e1 h1 e2 h2) :
    ∃ e1' h1', StepSem P fid base w0 j e h e1' h1' ∧ StepSem P fid base w0 i e1' h1' e2 h2 := by
  obtain ⟨a1, a2, a3⟩ := apart_iff hap
  have conv : ∀ k : Nat, True := fun _ => trivial
  rcases s1 with ⟨g1, rfl, rfl⟩ | ⟨g1, a, I1, rfl⟩
  · -- the first is passed over
    rcases s2 with ⟨g2, rfl, rfl⟩ | ⟨g2, b, I2, rfl⟩
    · rw [guard_put a1] at g2
      exact ⟨_, _, .inl ⟨g2, rfl, rfl⟩, .inl ⟨by rw [guard_put a2]; exact g1, put_comm a1, rfl⟩⟩
    · rw [guard_put a1] at g2
      rw [args_put a1] at I2
      exact ⟨_, _, .inr ⟨g2, b, I2, rfl⟩, .inl ⟨by rw [guard_put a2]; exact g1, put_comm a1, rfl⟩⟩
  · rcases s2 with ⟨g2, rfl, rfl⟩ | ⟨g2, b, I2, rfl⟩
    · rw [guard_put a1] at g2
      exact ⟨_, _, .inl ⟨g2, rfl, rfl⟩, .inr ⟨by rw [guard_put a2]; exact g1, a, by rw [args_put a2]; exact I1, put_comm a1⟩⟩
    · rw [guard_put a1] at g2
      rw [args_put a1] at I2
      have fin : ∀ k1, ItemSem P fid base w0 j (j.xs.map (evalO e)) h b k1 → ItemSem P fid base w0 i (i.xs.map (evalO e)) k1 a h2 →
          ∃ e1' h1', StepSem P fid base w0 j e h e1' h1' ∧ StepSem P fid base w0 i e1' h1' (putE (putE e i.dst a) j.dst b) h2 := by
        intro k1 J1 J2
        exact ⟨_, k1, .inr ⟨g2, b, J1, rfl⟩, .inr ⟨by rw [guard_put a2]; exact g1, a, by rw [args_put a2]; exact J2, put_comm a1⟩⟩
      rcases I1 with ⟨f1, rfl, o1⟩ | ⟨k, f1, rfl, o1⟩ | ⟨f1, n1, o1, q1, u1, d1⟩
      · -- the first asks nothing of the heap
        exact fin h2 I2 (.inl ⟨f1, rfl, o1⟩)
      · rcases I2 with ⟨f2, rfl, o2⟩ | ⟨k', f2, rfl, o2⟩ | ⟨f2, n2, o2, q2, u2, d2⟩
        · exact fin _ (.inl ⟨f2, rfl, o2⟩) (.inr (.inl ⟨k, f1, rfl, o1⟩))
        · exact fin _ (.inr (.inl ⟨k', f2, rfl, o2⟩)) (.inr (.inl ⟨k, f1, rfl, o1⟩))
        · have hk : k ∈ j.u := by
            rcases a3 with h | h | ⟨_, _, _, h⟩ | ⟨k2, h, _, hk⟩ | ⟨_, h, _⟩ | ⟨h, _⟩
            · rw [home_free f1] at h; cases h
            · rw [f2] at h; cases h
            · rw [n2] at h; cases h
            · rw [f1] at h; cases h; exact hk
            · rw [f1] at h; cases h
            · rw [f1] at h; cases h
          exact fin h2 (.inr (.inr ⟨f2, n2, o2, q2, u2, d2⟩)) (.inr (.inl ⟨k, f1, rfl, fun h'' e => o1 h'' (e.trans (u2 k hk))⟩))
      · rcases I2 with ⟨f2, rfl, o2⟩ | ⟨k', f2, rfl, o2⟩ | ⟨f2, n2, o2, q2, u2, d2⟩
        · exact fin h (.inl ⟨f2, rfl, o2⟩) (.inr (.inr ⟨f1, n1, o1, q1, u1, d1⟩))
        · have hk : k' ∈ i.u := by
            rcases a3 with h | h | ⟨_, _, h, _⟩ | ⟨_, h, _⟩ | ⟨k2, _, h, hk⟩ | ⟨_, h, _⟩
            · rw [f1] at h; cases h
            · rw [home_free f2] at h; cases h
            · rw [n1] at h; cases h
            · rw [n1] at h; cases h
            · rw [f2] at h; cases h; exact hk
            · rw [f2] at h; cases h
          exact fin h (.inr (.inl ⟨k', f2, rfl, fun h'' e => o2 h'' (e.trans (u1 k' hk).symm)⟩)) (.inr (.inr ⟨f1, n1, o1, q1, u1, d1⟩))
        · obtain ⟨l1, l2, w1, w2⟩ : i.loud = false ∧ j.loud = false ∧ (∀ k ∈ i.turns, k ∈ j.u ∧ k ∉ i.u) ∧ (∀ k ∈ j.turns, k ∈ i.u ∧ k ∉ j.u) := by
            rcases a3 with h | h | ⟨_, _, h, _⟩ | ⟨_, h, _⟩ | ⟨k2, _, h, hk⟩ | ⟨_, _, h⟩
            · rw [f1] at h; cases h
            · rw [f2] at h; cases h
            · rw [n1] at h; cases h
            · rw [n1] at h; cases h
            · rw [n2] at h; cases h
            · exact h
          have q1' := q1.resolve_left (by rw [l1]; simp)
          have q2' := q2.resolve_left (by rw [l2]; simp)
          obtain ⟨C, hC, rfl⟩ := q1'
          obtain ⟨D, hD, rfl⟩ := q2'
          refine fin (h.over j.turns D) (.inr (.inr ⟨f2, n2, fun Y hY => ?_, .inr ⟨D, hD, rfl⟩, fun k hk => ?_, fun k B hk hB => ?_⟩))
            (.inr (.inr ⟨f1, n1, fun X hX => ?_, .inr ⟨C, hC, ?_⟩, fun k hk => ?_, fun k B hk hB => ?_⟩))
          · have := o2 Y hY
            rw [over_over h _ _ C Y fun k hk => (w1 k hk).1] at this
            have e3 : ((h.over i.turns C).over j.turns D).over j.u Y = (h.over j.turns D).over j.u Y := by
              rw [over_comm _ i.turns j.turns C D fun k hk hk2 => (w2 k hk2).2 (w1 k hk).1]
              exact over_over _ _ _ C Y fun k hk => (w1 k hk).1
            rw [e3] at this
            exact this
          · simp only [Hp.over, over_get]
            rw [if_neg fun h => (w2 k h.1).2 hk]
          · by_cases hk2 : k ∈ i.turns
            · exact d1 k B (by simp [hk2]) hB
            · refine d2 k B hk ?_
              simp only [Hp.over, over_get]
              rw [if_neg fun h => hk2 h.1]
              exact hB
          · have := o1 X hX
            rw [over_over h _ _ D X fun k hk => (w2 k hk).1]
            rw [over_over _ _ _ D X fun k hk => (w2 k hk).1]
            exact this
          · exact over_comm _ i.turns j.turns C D fun k hk hk2 => (w2 k hk2).2 (w1 k hk).1
          · rw [over_comm _ i.turns j.turns C D fun k hk hk2 => (w2 k hk2).2 (w1 k hk).1]
            simp only [Hp.over, over_get]
            rw [if_neg fun h => (w1 k h.1).2 hk]
          · simp only [Hp.over, over_get] at hB
            split at hB
            · exact hD k B (Option.some.inj hB)
            · exact d1 k B hk hB
theorem draw_first {i : IOp} : ∀ {pre post : List IOp} {e e' : List AV} {h h' : Hp}, (∀ k ∈ pre, apart k i = true) → DrawSem P fid base w0 (pre ++ i :: post) e h e' h' →
    DrawSem P fid base w0 (i :: (pre ++ post)) e h e' h'
  | [], post, e, e', h, h', _, hd => hd
  | k :: pre, post, e, e', h, h', hap, hd => by
    obtain ⟨e1, h1, s1, hd1⟩ := hd
    obtain ⟨e2, h2, s2, hd2⟩ := draw_first (fun j hj => hap j (by simp [hj])) hd1
    obtain ⟨e3, h3, t1, t2⟩ := step_swap (hap k (by simp)) s1 s2
    exact ⟨e3, h3, t1, e2, h2, t2, hd2⟩
end Go.AM
namespace Go.AM
open Go.RowKit
variable {P : Program} {fid : String → Option FuncId} {base : Nat} {w0 : World}
structure StRel (fid : String → Option FuncId) (base : Nat) (w0 : World) (a : Act) (w : World) (μ : Lab → Nat × Nat) (env : List AV) (h : Hp) : Prop where
  sim : Sim fid base w0 w μ h.get
  ord : Ord h.G
  env : Reps fid w (Wr μ h.get) (info μ h.get) a.tmps.toList env
  defers : a.defers = []
theorem put_reps {w W M} {a : Act} {env : List AV} {dst : Option Tmp} {y : Value} {r : AV} (E : Reps fid w W M a.tmps.toList env) (R : Rep fid w W M y r) :
    Reps fid w W M (a.put dst y).tmps.toList (putE env dst r) := by
  cases dst with
  | none => exact E
  | some d => simpa [Act.put, putE] using E.set d R
theorem put_defers {a : Act} {dst : Option Tmp} {y : Value} (h : a.defers = []) : (a.put dst y).defers = [] := by cases dst <;> exact h
theorem guard_sound {ops : Array Oper} {w W M} {a : Act} {env : List AV} {o : Oper} {i : IOp} {b : Bool} (hc : chkGuard ops o.guard i.guard = true) (E : Reps fid w W M a.tmps.toList env)
    (hg : guardE env i.guard = some b) : Region.wanted o (yielded ops a.tmps) = b := by
  unfold chkGuard at hc
  split at hc <;> first | (cases hc; done) | skip
  · rename_i h1 h2
    rw [h2] at hg
    simp only [guardE, St.guard, Option.some.injEq] at hg
    subst hg
    simp [Region.wanted, h1]
  · rename_i j c t c' h1 h2
    simp only [Bool.and_eq_true, beq_iff_eq] at hc
    obtain ⟨hd, rfl⟩ := hc
    rw [h2] at hg
    simp only [guardE, St.guard] at hg
    simp only [Region.wanted, h1, yielded, hd, Option.bind_some]
    have hx : ∀ v, env.getD t .dead = .v v → ∃ y, a.tmps[t]? = some y ∧ y = v := by
      intro v hv
      rw [List.getD_eq_getElem?_getD] at hv
      cases he : env[t]? with
      | none => rw [he] at hv; cases hv
      | some av =>
        rw [he] at hv
        simp only [Option.getD_some] at hv
        subst hv
        have hlt : t < a.tmps.toList.length := by
          rw [E.1]
          by_cases hl : t < env.length
          · exact hl
          · rw [List.getElem?_eq_none (by omega)] at he; cases he
        have := E.2 t _ _ (List.getElem?_eq_getElem hlt) he
        refine ⟨_, ?_, this.v_inv⟩
        rw [← Array.getElem?_toList, List.getElem?_eq_getElem hlt]
    split at hg
    · rename_i c2 hv
      obtain ⟨y, hy, rfl⟩ := hx _ hv
      cases hg
      rw [hy]
      cases c <;> cases c2 <;> rfl
    · rename_i vs hv
      obtain ⟨y, hy, rfl⟩ := hx _ hv
      cases hg
      rw [hy]
      cases c <;> rfl
    · cases hg
def StepSem0 (P : Program) (fid : String → Option FuncId) (base : Nat) (w0 : World) (i : IOp) (env : List AV) (h : Hp) (env' : List AV) (h' : Hp) : Prop :=
  (guardE env i.guard = some false ∧ env' = putE env i.dst (.v undef) ∧ h' = h) ∨
  (guardE env i.guard = some true ∧ ∃ a, OpSem P fid base w0 i.p (i.xs.map (evalO env)) h a h' ∧ env' = putE env i.dst a)
theorem StepSem.zero {i : IOp} {env env' : List AV} {h h' : Hp} (hs : StepSem P fid base w0 i env h env' h') : StepSem0 P fid base w0 i env h env' h' := by
  rcases hs with h1 | ⟨g1, r, I, rfl⟩
  · exact .inl h1
  · refine .inr ⟨g1, r, ?_, rfl⟩
    rcases I with ⟨_, rfl, o1⟩ | ⟨_, _, rfl, o1⟩ | ⟨_, _, o1, _, hu, hd⟩
    · exact o1 _
    · exact o1 _ rfl
    · have := o1 (fun k => if k ∈ i.u then (h.L[k]?).join else none) fun k B hB => by
        replace hB : (if k ∈ i.u then _ else none) = some B := hB
        split at hB
        · rename_i hk
          refine hd k B (by simp [hk]) ?_
          cases hl : h.L[k]? with
          | none => rw [hl] at hB; cases hB
          | some x => rw [hl] at hB; exact congrArg some hB
        · cases hB
      have e1 : h.over i.u (fun k => if k ∈ i.u then (h.L[k]?).join else none) = h := by
        refine Hp.over_ext rfl fun k => ?_
        simp only [Hp.over, over_get]
        split
        · rename_i hk; rw [if_pos hk.1, List.getElem?_eq_getElem hk.2]; rfl
        · rfl
      have e2 : h'.over i.u (fun k => if k ∈ i.u then (h.L[k]?).join else none) = h' := by
        refine Hp.over_ext rfl fun k => ?_
        simp only [Hp.over, over_get]
        split
        · rename_i hk; rw [if_pos hk.1, ← hu k hk.1, List.getElem?_eq_getElem hk.2]; rfl
        · rfl
      rwa [e1, e2] at this
theorem step_sound0 {ops : Array Oper} {o : Oper} {i : IOp} {a : Act} {w : World} {μ} {env env' : List AV} {h h' : Hp} {Q : Exit → Act → World → Prop} {K : Act → World → Prop}
    (hck : chkOper P fid ops o i = true) (R : StRel fid base w0 a w μ env h) (hs : StepSem0 P fid base w0 i env h env' h')
    (hK : ∀ a' w' μ', StRel fid base w0 a' w' μ' env' h' → Pres w (Wr μ h.get) (info μ h.get) w' (Wr μ' h'.get) (info μ' h'.get) → K a' w') :
    (if Region.wanted o (yielded ops a.tmps) then o.wp P a w K Q ∨ (o.asks P a w ∧ LetsOut Q) else K (a.put o.dst undef) w) := by
  unfold chkOper at hck
  simp only [Bool.and_eq_true, beq_iff_eq] at hck
  obtain ⟨⟨hd, hg⟩, hop⟩ := hck
  rcases hs with ⟨g1, rfl, rfl⟩ | ⟨g1, r, hO, rfl⟩
  · rw [guard_sound hg R.env g1]
    simp only [Bool.false_eq_true, if_false]
    refine hK _ w μ ⟨R.sim, R.ord, ?_, put_defers R.defers⟩ (.refl _ _ _)
    rw [hd]
    exact put_reps R.env (.v _)
  · rw [guard_sound hg R.env g1]
    simp only [if_true]
    left
    obtain ⟨dst, op, ty, pos, after, guard⟩ := o
    simp only at hd hop
    refine hO op ty a env i.xs w μ rfl hop R.sim R.ord R.env dst pos after guard K Q fun y w' hpost hO' => ?_
    obtain ⟨μ', S', p', R'⟩ := hpost
    refine hK _ w' μ' ⟨S', hO', ?_, put_defers R.defers⟩ p'
    rw [← hd]
    exact put_reps (R.env.pres p') R'
theorem step_sound {ops : Array Oper} {o : Oper} {i : IOp} {a : Act} {w : World} {μ} {env env' : List AV} {h h' : Hp} {Q : Exit → Act → World → Prop} {K : Act → World → Prop}
    (hck : chkOper P fid ops o i = true) (R : StRel fid base w0 a w μ env h) (hs : StepSem P fid base w0 i env h env' h')
    (hK : ∀ a' w' μ', StRel fid base w0 a' w' μ' env' h' → Pres w (Wr μ h.get) (info μ h.get) w' (Wr μ' h'.get) (info μ' h'.get) → K a' w') :
    (if Region.wanted o (yielded ops a.tmps) then o.wp P a w K Q ∨ (o.asks P a w ∧ LetsOut Q) else K (a.put o.dst undef) w) :=
  step_sound0 hck R hs.zero hK
inductive Anc (ops : Array Oper) : Nat → Nat → Prop
  | one {j o e} (ho : ops[j]? = some o) (he : e ∈ o.after) (hb : Region.binds .any e = true) : Anc ops j e.on
  | more {j o e k} (ho : ops[j]? = some o) (he : e ∈ o.after) (hb : Region.binds .any e = true) (h : Anc ops e.on k) : Anc ops j k
theorem masks_sound (ops : Array Oper) : ∀ (l : List Oper) (acc : List Nat), (∀ j, l[j]? = ops[acc.length + j]?) →
    (∀ j k, j < acc.length → (acc.getD j 0).testBit k = true → Anc ops j k) → ∀ j k, ((masks l acc).getD j 0).testBit k = true → j < acc.length + l.length → Anc ops j k
  | [], acc, _, h, j, k, hb, hj => h j k (by simpa using hj) (by simpa [masks] using hb)
  | o :: l, acc, hl, h, j, k, hb, hj => by
    refine masks_sound ops l _ (fun j => ?_) (fun j k hj hb => ?_) j k (by simpa [masks] using hb) (by simp at hj ⊢; omega)
    · have := hl (j + 1)
      rw [List.length_append, List.length_singleton, show acc.length + 1 + j = acc.length + (j + 1) by omega, ← this]
      simp
    · rw [List.length_append, List.length_singleton] at hj
      by_cases hlt : j < acc.length
      · rw [List.getD_eq_getElem?_getD, List.getElem?_append_left hlt, ← List.getD_eq_getElem?_getD] at hb
        exact h j k hlt hb
      · obtain rfl : j = acc.length := by omega
        rw [List.getD_eq_getElem?_getD, List.getElem?_append_right (Nat.le_refl _)] at hb
        rw [Nat.sub_self, List.getElem?_cons_zero, Option.getD_some] at hb
        have ho : ops[acc.length]? = some o := by have := hl 0; simpa using this.symm
        have key : ∀ (es : List Edge) (m : Nat), (∀ e ∈ es, e ∈ o.after) →
            (es.foldl (fun m e => if Region.binds .any e then m ||| 2 ^ e.on ||| acc.getD e.on 0 else m) m).testBit k = true → m.testBit k = true ∨ Anc ops acc.length k := by
          intro es
          induction es with
          | nil => intro m _ h; exact .inl h
          | cons e es ih =>
            intro m hes hh
            rw [List.foldl_cons] at hh
            rcases ih _ (fun e' he' => hes e' (by simp [he'])) hh with h1 | h1
            · split at h1
              · rename_i hbe
                rw [Nat.testBit_or, Nat.testBit_or] at h1
                simp only [Bool.or_eq_true] at h1
                rcases h1 with (h1 | h1) | h1
                · exact .inl h1
                · right
                  rw [Nat.testBit_two_pow] at h1
                  simp only [decide_eq_true_eq] at h1
                  subst h1
                  exact .one ho (hes e (by simp)) hbe
                · right
                  refine .more ho (hes e (by simp)) hbe (h e.on k ?_ h1)
                  by_cases hlt2 : e.on < acc.length
                  · exact hlt2
                  · rw [List.getD_eq_getElem?_getD, List.getElem?_eq_none (by omega)] at h1
                    simp at h1
              · exact .inl h1
            · exact .inr h1
        rcases key o.after.toList 0 (fun e he => by simpa using he) (by simpa using hb) with h1 | h1
        · simp at h1
        · exact h1
theorem anc_listed {ops : Array Oper} {listed : Nat → Bool} (hclosed : ∀ j o, ops[j]? = some o → listed j = true → ∀ e ∈ o.after, Region.binds .any e = true → listed e.on = true)
    {j k : Nat} (h : Anc ops j k) : (∀ o, ops[j]? = some o → ∀ e ∈ o.after, Region.binds .any e = true → listed e.on = true) → listed k = true := by
  induction h with
  | one ho he hb => intro hr; exact hr _ ho _ he hb
  | more ho he hb _ ih =>
    intro hr
    have := hr _ ho _ he hb
    exact ih fun o ho' e he' hb' => hclosed _ o ho' this e he' hb'
theorem ready_mem {ops : Array Oper} {listed : Array Bool} {i : Nat} : i ∈ Region.ready .any ops listed ↔
    ∃ o, ops[i]? = some o ∧ listed.getD i true = false ∧ ∀ e ∈ o.after, Region.binds .any e = true → listed.getD e.on false = true := by
  unfold Region.ready
  rw [List.mem_filter, List.mem_range]
  constructor
  · rintro ⟨hi, hb⟩
    rw [Array.getElem?_eq_getElem hi] at hb
    rw [Option.map_some, Option.getD_some, Bool.and_eq_true, Array.all_eq_true'] at hb
    refine ⟨_, Array.getElem?_eq_getElem hi, by simpa using hb.1, fun e he hbe => ?_⟩
    have := hb.2 e he
    simpa [hbe] using this
  · rintro ⟨o, ho, hl, hr⟩
    have hi : i < ops.size := by
      by_cases h : i < ops.size
      · exact h
      · rw [Array.getElem?_eq_none (by omega)] at ho; cases ho
    refine ⟨hi, ?_⟩
    rw [ho, Option.map_some, Option.getD_some, Bool.and_eq_true, Array.all_eq_true', hl]
    refine ⟨rfl, fun e he => ?_⟩
    by_cases hbe : Region.binds .any e = true
    · rw [hr e he hbe]; simp
    · simp [hbe]
theorem getD_set_true {l : Array Bool} {i j : Nat} {d : Bool} (hi : i < l.size) : (l.setIfInBounds i true).getD j d = if i = j then true else l.getD j d := by
  simp only [Array.getD_eq_getD_getElem?, Array.getElem?_setIfInBounds]
  split
  · rename_i h; subst h; simp [hi]
  · rfl
theorem chkOpers_at {ops : Array Oper} : ∀ {os : List Oper} {l : List IOp}, chkOpers P fid ops os l = true → os.length = l.length ∧ ∀ (i : Nat) o io, os[i]? = some o → l[i]? = some io → chkOper P fid ops o io = true
  | [], [], _ => ⟨rfl, by intro i o io h; simp at h⟩
  | o :: os, i :: is, h => by
    simp only [chkOpers, Bool.and_eq_true] at h
    obtain ⟨h1, h2⟩ := chkOpers_at h.2
    refine ⟨by simp [h1], fun j o' io' ho hi => ?_⟩
    cases j with
    | zero => simp at ho hi; subst ho; subst hi; exact h.1
    | succ j => exact h2 j o' io' (by simpa using ho) (by simpa using hi)
  | [], _ :: _, h => by simp [chkOpers] at h
  | _ :: _, [], h => by simp [chkOpers] at h
theorem drawOK_at {ops : Array Oper} {l : List IOp} (hd : drawOK ops l = true) {j : Nat} {o : Oper} {i : IOp} (ho : ops[j]? = some o) (hi : l[j]? = some i) :
    (∀ e ∈ o.after, Region.binds .any e = true → e.on < j) ∧ ∀ k i', k < j → l[k]? = some i' → Anc ops j k ∨ apart i' i = true := by
  have hj : j < ops.size := by
    by_cases h : j < ops.size
    · exact h
    · rw [Array.getElem?_eq_none (by omega)] at ho; cases ho
  unfold drawOK at hd
  rw [List.all_eq_true] at hd
  have := hd j (List.mem_range.2 hj)
  rw [ho, hi] at this
  rw [Bool.and_eq_true, Array.all_eq_true', List.all_eq_true] at this
  refine ⟨fun e he hb => ?_, fun k i' hk hi' => ?_⟩
  · have := this.1 e he
    simpa [hb] using this
  · have := this.2 k (List.mem_range.2 hk)
    rw [hi', Bool.or_eq_true] at this
    rcases this with h | h
    · left
      exact masks_sound ops ops.toList [] (fun j => by simp) (fun j k hj => by simp at hj) j k h (by simpa using hj)
    · exact .inr h
theorem draw_any {ops : Array Oper} {l : List IOp} {Q : Exit → Act → World → Prop} {env' : List AV} {h' : Hp} (hl : chkOpers P fid ops ops.toList l = true) (hd : drawOK ops l = true) :
    ∀ (fuel : Nat) (rem : List (Nat × IOp)) (listed : Array Bool) (a : Act) (w : World) (μ : Lab → Nat × Nat) (env : List AV) (h : Hp), rem.length ≤ fuel →
      listed.size = ops.size → (∀ i, i < ops.size → (listed.getD i true = false ↔ ∃ io, (i, io) ∈ rem)) → (∀ p ∈ rem, p.1 < ops.size ∧ l[p.1]? = some p.2) →
      rem.Pairwise (fun p q => p.1 < q.1) → (∀ j o, ops[j]? = some o → listed.getD j false = true → ∀ e ∈ o.after, Region.binds .any e = true → listed.getD e.on false = true) →
      DrawSem P fid base w0 (rem.map (·.2)) env h env' h' → StRel fid base w0 a w μ env h →
      (∀ a' w' μ', StRel fid base w0 a' w' μ' env' h' → Pres w (Wr μ h.get) (info μ h.get) w' (Wr μ' h'.get) (info μ' h'.get) → Q .normal a' w') →
      wpAny P .any ops Q fuel listed a w := by
  have same : ∀ (listed : Array Bool) i, listed.size = ops.size → i < ops.size → listed.getD i true = listed.getD i false := by
    intro listed i hs hi
    simp [Array.getD_eq_getD_getElem?, Array.getElem?_eq_getElem (by omega : i < listed.size)]
  have none_ready : ∀ (rem : List (Nat × IOp)) (listed : Array Bool), listed.size = ops.size → (∀ i, i < ops.size → (listed.getD i true = false ↔ ∃ io, (i, io) ∈ rem)) → (∀ p ∈ rem, p.1 < ops.size ∧ l[p.1]? = some p.2) →
      rem.Pairwise (fun p q => p.1 < q.1) → Region.ready .any ops listed = [] → rem = [] := by
    intro rem listed hs hr hm hp h0
    cases rem with
    | nil => rfl
    | cons p rem =>
      exfalso
      obtain ⟨hlt, hli⟩ := hm p (by simp)
      have hmem : p.1 ∈ Region.ready .any ops listed := by
        rw [ready_mem]
        refine ⟨_, Array.getElem?_eq_getElem hlt, (hr _ hlt).2 ⟨p.2, by simp⟩, fun e he hb => ?_⟩
        have hlt2 := (drawOK_at hd (Array.getElem?_eq_getElem hlt) hli).1 e he hb
        by_cases hle : listed.getD e.on false = true
        · exact hle
        · exfalso
          have h1 : listed.getD e.on true = false := by rw [same listed e.on hs (by omega)]; simpa using hle
          obtain ⟨io, hio⟩ := (hr e.on (by omega)).1 h1
          rcases List.mem_cons.1 hio with h2 | h2
          · rw [← h2] at hlt2; exact absurd hlt2 (Nat.lt_irrefl _)
          · have := (List.pairwise_cons.1 hp).1 _ h2
            simp at this
            omega
      rw [h0] at hmem
      cases hmem
  intro fuel
  induction fuel with
  | zero =>
    intro rem listed a w μ env h hlen hs hr hm hp hcl hdr R hK
    obtain rfl : rem = [] := List.length_eq_zero_iff.1 (by omega)
    refine ⟨?_, ?_⟩
    · apply List.eq_nil_iff_forall_not_mem.2
      intro i hi
      rw [ready_mem] at hi
      obtain ⟨o, ho, hl', _⟩ := hi
      have hi : i < ops.size := by
        by_cases h : i < ops.size
        · exact h
        · rw [Array.getElem?_eq_none (by omega)] at ho; cases ho
      obtain ⟨io, hio⟩ := (hr i hi).1 hl'
      cases hio
    · obtain ⟨rfl, rfl⟩ := hdr
      exact hK _ _ _ R (.refl _ _ _)
  | succ fuel ih =>
    intro rem listed a w μ env h hlen hs hr hm hp hcl hdr R hK
    refine ⟨fun h0 => ?_, fun i hi => ?_⟩
    · obtain rfl := none_ready rem listed hs hr hm hp h0
      obtain ⟨rfl, rfl⟩ := hdr
      exact hK _ _ _ R (.refl _ _ _)
    · rw [ready_mem] at hi
      obtain ⟨o, ho, hli, hed⟩ := hi
      have hlt : i < ops.size := by
        by_cases h : i < ops.size
        · exact h
        · rw [Array.getElem?_eq_none (by omega)] at ho; cases ho
      obtain ⟨io, hio⟩ := (hr i hlt).1 hli
      obtain ⟨pre, post, rfl⟩ := List.append_of_mem hio
      have hil : l[i]? = some io := (hm _ hio).2
      rw [List.pairwise_append, List.pairwise_cons] at hp
      obtain ⟨hp1, ⟨hp2, hp3⟩, hp4⟩ := hp
      have hap : ∀ k ∈ pre.map (·.2), apart k io = true := by
        intro k hk
        obtain ⟨p, hpm, rfl⟩ := List.mem_map.1 hk
        have hlt2 : p.1 < i := hp4 p hpm (i, io) (by simp)
        obtain ⟨hps, hpl⟩ := hm p (by simp [hpm])
        rcases (drawOK_at hd ho hil).2 p.1 p.2 hlt2 hpl with h1 | h1
        · exfalso
          have := anc_listed (listed := fun k => listed.getD k false) hcl h1 (fun o' ho' e he hb => by rw [ho] at ho'; cases ho'; exact hed e he hb)
          have h2 := (hr p.1 hps).2 ⟨p.2, by simp [hpm]⟩
          rw [same listed _ hs hps] at h2
          rw [show listed.getD p.1 false = true from this] at h2
          cases h2
        · exact h1
      rw [List.map_append, List.map_cons] at hdr
      obtain ⟨e1, h1, st, hdr2⟩ := draw_first hap hdr
      rw [← List.map_append] at hdr2
      unfold wpOp
      rw [ho]
      simp only
      have hck := (chkOpers_at hl).2 i o io (by simpa using ho) hil
      refine step_sound hck R st fun a' w' μ' R' p' => ?_
      refine ih (pre ++ post) (listed.setIfInBounds i true) a' w' μ' e1 h1 ?_ (by simpa using hs) (fun j hj => ?_) (fun p hpm => hm p ?_) ?_ (fun j oj hoj hjl e he hb => ?_) hdr2 R' fun a2 w2 μ2 R2 p2 => hK a2 w2 μ2 R2 (p'.trans p2)
      · simp at hlen ⊢; omega
      · rw [getD_set_true (by omega)]
        by_cases hij : i = j
        · subst hij
          simp only [if_true]
          constructor
          · intro h; cases h
          · rintro ⟨io2, hm2⟩
            exfalso
            rcases List.mem_append.1 hm2 with h3 | h3
            · have := hp4 _ h3 (i, io) (by simp); exact absurd this (Nat.lt_irrefl _)
            · have := hp2 _ h3; exact absurd this (Nat.lt_irrefl _)
        · rw [if_neg hij, hr j hj]
          constructor
          · rintro ⟨io2, hm2⟩
            refine ⟨io2, ?_⟩
            rcases List.mem_append.1 hm2 with h3 | h3
            · exact List.mem_append.2 (.inl h3)
            · rcases List.mem_cons.1 h3 with h4 | h4
              · cases h4; exact absurd rfl hij
              · exact List.mem_append.2 (.inr h4)
          · rintro ⟨io2, hm2⟩
            refine ⟨io2, ?_⟩
            rcases List.mem_append.1 hm2 with h3 | h3
            · exact List.mem_append.2 (.inl h3)
            · exact List.mem_append.2 (.inr (by simp [h3]))
      · rcases List.mem_append.1 hpm with h3 | h3
        · exact List.mem_append.2 (.inl h3)
        · exact List.mem_append.2 (.inr (by simp [h3]))
      · rw [List.pairwise_append]
        exact ⟨hp1, hp3, fun p hp q hq => hp4 p hp q (by simp [hq])⟩
      · rw [getD_set_true (by omega)] at hjl ⊢
        split
        · rfl
        · by_cases hij : i = j
          · subst hij
            rw [ho] at hoj
            cases hoj
            exact hed e he hb
          · rw [if_neg hij] at hjl
            exact hcl j oj hoj hjl e he hb
end Go.AM
namespace Go.AM
open Go.RowKit
variable {P : Program} {fid : String → Option FuncId} {base : Nat} {w0 : World}
def Out.exit' : Out → Exit
  | .normal => .normal
  | .exit id => .exit id
  | .ret => .ret
def outer (M : Lab → Option LInfo) : Lab → Option LInfo
  | .o p => M (.o p)
  | .l _ => none
def infC (c : ICode) (M : Lab → Option LInfo) : Lab → Option LInfo := if c.calm then M else outer M
section
variable (P fid base w0)
def CodeSem (c : ICode) (s : St) (o : Out) (s' : St) : Prop :=
  ∀ cc, chkCode P fid cc c = true → ∀ (a : Act) (w : World) (μ : Lab → Nat × Nat), StRel fid base w0 a w μ s.env s.h → ∀ Q : Exit → Act → World → Prop,
    (∀ a' w' μ', StRel fid base w0 a' w' μ' s'.env s'.h → Pres w (Wr μ s.h.get) (infC c (info μ s.h.get)) w' (Wr μ' s'.h.get) (infC c (info μ' s'.h.get)) → Q o.exit' a' w') → cc.wp P Q a w
def LoopSem (clr fre : List Nat) (c : ICode) (s : St) (o : Out) (s' : St) : Prop :=
  ∃ n, ∀ cc, chkCode P fid cc c = true → ∀ (a : Act) (w : World) (μ : Lab → Nat × Nat), StRel fid base w0 a w μ s.env s.h → ∀ Q : Exit → Act → World → Prop,
    (∀ a' w' μ', StRel fid base w0 a' w' μ' s'.env s'.h → Pres w (Wr μ s.h.get) (outer (info μ s.h.get)) w' (Wr μ' s'.h.get) (outer (info μ' s'.h.get)) → Q o.exit' a' w') → Code.rounds P cc Q n a w
def OpsSem (l : List IOp) (s s' : St) : Prop :=
  ∀ (ops : Array Oper) (os : List Oper), chkOpers P fid ops os l = true → ∀ (a : Act) (w : World) (μ : Lab → Nat × Nat), StRel fid base w0 a w μ s.env s.h → ∀ Q : Exit → Act → World → Prop,
    (∀ a' w' μ', StRel fid base w0 a' w' μ' s'.env s'.h → Pres w (Wr μ s.h.get) (info μ s.h.get) w' (Wr μ' s'.h.get) (info μ' s'.h.get) → Q .normal a' w') → wpList P ops Q os a w
def Sem' : Task → Res → Prop
  | .call f args G, .ret r G2 => CallSem P fid base w0 f args G r G2
  | .code c s, .out o s' => CodeSem P fid base w0 c s o s' ∧ ∀ clr fre a, c = .loop clr fre a → LoopSem P fid base w0 clr fre a s o s'
  | .op p xs h, .val a h' => OpSem P fid base w0 p xs h a h'
  | .ops l s, .env s' => OpsSem P fid base w0 l s s'
  | .draw l s, .env s' => DrawSem P fid base w0 l s.env s.h s'.env s'.h
  | _, _ => True
end
theorem Pres.outer {w W M w' W' M'} (h : Pres w W M w' W' M') : Pres w W (outer M) w' W' (outer M') := by
  refine ⟨h.heap, h.wr, fun ℓ I hI => ?_, h.size⟩
  cases ℓ with
  | l k => cases hI
  | o p => exact h.lab (.o p) I hI
theorem infC_t {c : ICode} (h : c.calm = true) (M : Lab → Option LInfo) : infC c M = M := if_pos h
theorem infC_f {c : ICode} (h : c.calm = false) (M : Lab → Option LInfo) : infC c M = Go.AM.outer M := if_neg (by rw [h]; simp)
theorem Pres.calm {c : ICode} {w W M w' W' M'} (h : Pres w W M w' W' M') : Pres w W (infC c M) w' W' (infC c M') := by
  cases hc : c.calm with
  | true => rw [infC_t hc, infC_t hc]; exact h
  | false => rw [infC_f hc, infC_f hc]; exact h.outer
theorem Pres.loud {a : ICode} {w W M w' W' M'} (h : Pres w W (infC a M) w' W' (infC a M')) : Pres w W (Go.AM.outer M) w' W' (Go.AM.outer M') := by
  cases hc : a.calm with
  | true => rw [infC_t hc, infC_t hc] at h; exact h.outer
  | false => rw [infC_f hc, infC_f hc] at h; exact h
theorem Pres.weak {a c : ICode} {w W M w' W' M'} (h : Pres w W (infC a M) w' W' (infC a M')) (hac : c.calm = true → a.calm = true) : Pres w W (infC c M) w' W' (infC c M') := by
  cases hc : c.calm with
  | true => rw [infC_t hc, infC_t hc]; rw [infC_t (hac hc), infC_t (hac hc)] at h; exact h
  | false => rw [infC_f hc, infC_f hc]; exact h.loud
theorem Reps.dead {w W M xs as} (h : Reps fid w W M xs as) (t : Nat) : Reps fid w W M xs (as.set t .dead) := by
  refine ⟨by simp [h.1], fun i x a hx ha => ?_⟩
  rw [List.getElem?_set] at ha
  split at ha
  · split at ha
    · cases ha; exact .dead x
    · cases ha
  · exact h.2 i x a hx ha
theorem Reps.deads {w W M xs} : ∀ {clr : List Nat} {as}, Reps fid w W M xs as → Reps fid w W M xs (clr.foldl (fun e t => e.set t .dead) as)
  | [], _, h => h
  | t :: clr, as, h => Reps.deads (clr := clr) (h.dead t)
theorem sim_clear {a : Act} {w : World} {μ : Lab → Nat × Nat} {s s1 : St} {clr fre : List Nat} (R : StRel fid base w0 a w μ s.env s.h) (hc : clear s clr fre = some s1) :
    StRel fid base w0 a w μ s1.env s1.h ∧ Pres w (Wr μ s.h.get) (outer (info μ s.h.get)) w (Wr μ s1.h.get) (outer (info μ s1.h.get)) := by
  unfold clear at hc
  simp only at hc
  split at hc <;> cases hc
  rename_i hh
  obtain ⟨h1, h2⟩ := hh
  have hL : ∀ k, (fre.foldl (fun L k => L.set k none) s.h.L)[k]? = if k ∈ fre ∧ k < s.h.L.length then some none else s.h.L[k]? := by
    intro k; exact over_get s.h.L (fun _ => none) fre k
  have hgl : ∀ k, ({ s.h with L := fre.foldl (fun L k => L.set k none) s.h.L } : Hp).get (.l k) = if k ∈ fre then none else s.h.get (.l k) := by
    intro k
    simp only [Hp.get, hL]
    by_cases hk : k ∈ fre
    · rw [if_pos hk]
      split
      · rfl
      · rename_i hn
        rw [List.getElem?_eq_none (by
          by_cases hlt : k < s.h.L.length
          · exact absurd ⟨hk, hlt⟩ hn
          · omega)]
        rfl
    · rw [if_neg hk, if_neg fun h => hk h.1]
  have hgo : ∀ p, ({ s.h with L := fre.foldl (fun L k => L.set k none) s.h.L } : Hp).get (.o p) = s.h.get (.o p) := fun p => rfl
  have hid : ∀ ℓ B, ({ s.h with L := fre.foldl (fun L k => L.set k none) s.h.L } : Hp).get ℓ = some B → B.ren (fun ℓ => if labNot fre ℓ = true then some ℓ else none) = B := by
    intro ℓ B hB
    refine blk_ren_id fun ℓ' hl => ?_
    have : labNot fre ℓ' = true := by
      cases ℓ with
      | o p =>
        have hB' : s.h.G[p]? = some (some B) := by
          rw [hgo] at hB
          exact get_o.1 (show (⟨s.h.G, s.h.L⟩ : Hp).get (.o p) = some B from hB)
        have := List.all_eq_true.1 (R.ord p B hB') ℓ' hl
        cases ℓ' with
        | l k => simp [labLt] at this
        | o i => rfl
      | l k =>
        have hB' : (fre.foldl (fun L k => L.set k none) s.h.L)[k]? = some (some B) := get_l.1 (show (⟨s.h.G, fre.foldl (fun L k => L.set k none) s.h.L⟩ : Hp).get (.l k) = some B from hB)
        have := List.all_eq_true.1 h2 _ (List.mem_of_getElem? hB')
        exact List.all_eq_true.1 this ℓ' hl
    rw [if_pos this]
  obtain ⟨S', hW, hI⟩ := R.sim.relabel (get' := ({ s.h with L := fre.foldl (fun L k => L.set k none) s.h.L } : Hp).get) (fun ℓ => if labNot fre ℓ = true then some ℓ else none) id
    (fun ℓ' B' hB' => by
      refine ⟨B', ?_, (hid _ _ hB').symm, ?_⟩
      · cases ℓ' with
        | o p => exact hB'
        | l k =>
          rw [hgl] at hB'
          split at hB'
          · cases hB'
          · exact hB'
      · cases ℓ' with
        | o p => rfl
        | l k =>
          rw [hgl] at hB'
          split at hB'
          · cases hB'
          · rename_i hk
            simp [labNot, hk])
    (fun ℓ B ℓ' hB hr => by
      split at hr <;> cases hr
      rename_i hn
      have hg : ({ s.h with L := fre.foldl (fun L k => L.set k none) s.h.L } : Hp).get ℓ = some B := by
        cases ℓ with
        | o p => exact hB
        | l k =>
          rw [hgl, if_neg]
          · exact hB
          · simpa [labNot] using hn
      exact ⟨rfl, by rw [hid _ _ hg]; exact hg⟩)
  refine ⟨⟨S', R.ord, ?_, R.defers⟩, ?_⟩
  · have r1 := (R.env.deads (clr := clr)).relabel (fun ℓ => if labNot fre ℓ = true then some ℓ else none) hW hI
    have : (clr.foldl (fun e t => e.set t .dead) s.env).map (AV.ren fun ℓ => if labNot fre ℓ = true then some ℓ else none) = clr.foldl (fun e t => e.set t .dead) s.env := by
      conv => rhs; rw [← List.map_id (clr.foldl (fun e t => e.set t .dead) s.env)]
      refine List.map_congr_left fun a ha => ?_
      refine ren_id fun ℓ hl => ?_
      have := List.all_eq_true.1 (List.all_eq_true.1 h1 a ha) ℓ hl
      rw [if_pos this]
    rw [this] at r1
    exact r1
  · refine ⟨fun _ _ _ => rfl, fun b _ h => hW b h, fun ℓ I hI' => ?_, Nat.le_refl _⟩
    cases ℓ with
    | l k => cases hI'
    | o p => exact ⟨I, hI', .inl rfl⟩
def mvBack (mv : List (Nat × Nat)) : Lab → Lab
  | .o p => .o p
  | .l k => match mv.find? (fun q => q.2 == k) with
    | some q => .l q.1
    | none => .l k
theorem mv_nodup {n mv} (h : mvOK n mv = true) : (mv.map (·.1)).Nodup ∧ (mv.map (·.2)).Nodup ∧ (∀ p ∈ mv, ∀ q ∈ mv, p.1 ≠ q.2) ∧ ∀ q ∈ mv, q.1 < n ∧ q.2 < n := by
  unfold mvOK at h
  simp only [Bool.and_eq_true, decide_eq_true_eq, List.all_eq_true] at h
  obtain ⟨h1, h2⟩ := h
  rw [List.nodup_append] at h1
  refine ⟨h1.1, h1.2.1, fun p hp q hq e => h1.2.2 p.1 (List.mem_map.2 ⟨p, hp, rfl⟩) q.2 (List.mem_map.2 ⟨q, hq, rfl⟩) e, h2⟩
theorem nodup_inj {α β : Type} {f : α → β} : ∀ {l : List α}, (l.map f).Nodup → ∀ {p q}, p ∈ l → q ∈ l → f p = f q → p = q
  | [], _, p, q, hp, _, _ => by cases hp
  | a :: l, h, p, q, hp, hq, e => by
    rw [List.map_cons, List.nodup_cons] at h
    rcases List.mem_cons.1 hp with h1 | h1 <;> rcases List.mem_cons.1 hq with h2 | h2
    · rw [h1, h2]
    · exact absurd (List.mem_map.2 ⟨q, h2, by rw [← e, h1]⟩) h.1
    · exact absurd (List.mem_map.2 ⟨p, h1, by rw [e, h2]⟩) h.1
    · exact nodup_inj h.2 h1 h2 e
theorem mv_find1 {mv : List (Nat × Nat)} (hn : (mv.map (·.1)).Nodup) {q} (hq : q ∈ mv) : mv.find? (fun p => p.1 == q.1) = some q := by
  cases h : mv.find? (fun p => p.1 == q.1) with
  | none => have := List.find?_eq_none.1 h q hq; simp at this
  | some p =>
    have h1 := List.find?_some h
    have h2 := List.mem_of_find?_eq_some h
    rw [nodup_inj hn h2 hq (by simpa using h1)]
theorem mv_find2 {mv : List (Nat × Nat)} (hn : (mv.map (·.2)).Nodup) {q} (hq : q ∈ mv) : mv.find? (fun p => p.2 == q.2) = some q := by
  cases h : mv.find? (fun p => p.2 == q.2) with
  | none => have := List.find?_eq_none.1 h q hq; simp at this
  | some p =>
    have h1 := List.find?_some h
    have h2 := List.mem_of_find?_eq_some h
    rw [nodup_inj hn h2 hq (by simpa using h1)]
theorem sim_move {a : Act} {w : World} {μ : Lab → Nat × Nat} {s s1 : St} {mv : List (Nat × Nat)} (R : StRel fid base w0 a w μ s.env s.h) (hm : mvSt mv s = some s1) :
    ∃ μ', StRel fid base w0 a w μ' s1.env s1.h ∧ Pres w (Wr μ s.h.get) (outer (info μ s.h.get)) w (Wr μ' s1.h.get) (outer (info μ' s1.h.get)) := by
  unfold mvSt at hm
  split at hm <;> cases hm
  rename_i hok
  obtain ⟨n1, n2, n12, hlt⟩ := mv_nodup hok
  have hgl : ∀ k, ({ s.h with L := (List.range s.h.L.length).map (mvBlk s.h.L mv) } : Hp).get (.l k) = if k < s.h.L.length then mvBlk s.h.L mv k else none := by
    intro k
    simp only [Hp.get, List.getElem?_map]
    by_cases hk : k < s.h.L.length
    · rw [List.getElem?_range hk, if_pos hk]; rfl
    · rw [List.getElem?_eq_none (by simp; omega), if_neg hk]; rfl
  have hgo : ∀ p, ({ s.h with L := (List.range s.h.L.length).map (mvBlk s.h.L mv) } : Hp).get (.o p) = s.h.get (.o p) := fun p => rfl
  have hget : ∀ k, s.h.get (.l k) = (s.h.L[k]?).join := fun k => rfl
  have hoid : ∀ p B, s.h.get (.o p) = some B → B.ren (mvLab mv) = B := by
    intro p B hB
    refine blk_ren_id fun ℓ hl => ?_
    have hB' : s.h.G[p]? = some (some B) := get_o.1 (show (⟨s.h.G, s.h.L⟩ : Hp).get (.o p) = some B from hB)
    have := List.all_eq_true.1 (R.ord p B hB') ℓ hl
    cases ℓ with
    | l k => simp [labLt] at this
    | o i => rfl
  obtain ⟨S', hW, hI⟩ := R.sim.relabel (get' := ({ s.h with L := (List.range s.h.L.length).map (mvBlk s.h.L mv) } : Hp).get) (mvLab mv) (mvBack mv)
    (fun ℓ' B' hB' => by
      cases ℓ' with
      | o p => exact ⟨B', hB', (hoid p B' hB').symm, rfl⟩
      | l k =>
        rw [hgl] at hB'
        split at hB' <;> first | (cases hB'; done) | skip
        rename_i hk
        unfold mvBlk at hB'
        simp only [mvBack]
        cases hf : mv.find? (fun q => q.2 == k) with
        | some q =>
          rw [hf] at hB'
          obtain ⟨B, hB, rfl⟩ := Option.map_eq_some_iff.1 hB'
          have hq := List.mem_of_find?_eq_some hf
          have hk2 : q.2 = k := by simpa using List.find?_some hf
          refine ⟨B, hB, rfl, ?_⟩
          simp only [mvLab, mv_find1 n1 hq, hk2]
        | none =>
          rw [hf] at hB'
          simp only at hB'
          split at hB' <;> first | (cases hB'; done) | skip
          rename_i hany
          obtain ⟨B, hB, rfl⟩ := Option.map_eq_some_iff.1 hB'
          refine ⟨B, hB, rfl, ?_⟩
          have h1 : mv.find? (fun q => q.1 == k) = none := by
            rw [List.find?_eq_none]
            intro q hq
            simp only [Bool.not_eq_true, List.any_eq_false] at hany
            simp [hany q hq]
          have h2 : mv.any (fun q => q.2 == k) = false := by
            rw [List.any_eq_false]
            exact List.find?_eq_none.1 hf
          simp only [mvLab, h1, h2, Bool.false_eq_true, if_false])
    (fun ℓ B ℓ' hB hr => by
      cases ℓ with
      | o p =>
        simp only [mvLab, Option.some.injEq] at hr
        subst hr
        exact ⟨rfl, by rw [hoid p B hB]; exact hB⟩
      | l k =>
        have hkl : k < s.h.L.length := by
          by_cases h : k < s.h.L.length
          · exact h
          · rw [hget, List.getElem?_eq_none (by omega)] at hB; cases hB
        simp only [mvLab] at hr
        cases hf : mv.find? (fun q => q.1 == k) with
        | some q =>
          rw [hf] at hr
          simp only [Option.some.injEq] at hr
          subst hr
          have hq := List.mem_of_find?_eq_some hf
          have hk2 : q.1 = k := by simpa using List.find?_some hf
          refine ⟨?_, ?_⟩
          · simp only [mvBack, mv_find2 n2 hq, hk2]
          · rw [hgl, if_pos (hlt q hq).2]
            simp only [mvBlk, mv_find2 n2 hq, hk2]
            rw [← hget, hB]; rfl
        | none =>
          rw [hf] at hr
          simp only at hr
          split at hr <;> cases hr
          rename_i hany
          have h1 : mv.find? (fun q => q.2 == k) = none := by
            rw [List.find?_eq_none]
            intro q hq
            simp only [Bool.not_eq_true, List.any_eq_false] at hany
            simp [hany q hq]
          have h2 : mv.any (fun q => q.1 == k) = false := by
            rw [List.any_eq_false]
            exact List.find?_eq_none.1 hf
          refine ⟨?_, ?_⟩
          · simp only [mvBack, h1]
          · rw [hgl, if_pos hkl]
            simp only [mvBlk, h1, h2, Bool.false_eq_true, if_false]
            rw [← hget, hB]; rfl)
  refine ⟨_, ⟨S', R.ord, R.env.relabel (mvLab mv) hW hI, R.defers⟩, ⟨fun _ _ _ => rfl, fun b _ h => hW b h, fun ℓ I hI' => ?_, Nat.le_refl _⟩⟩
  cases ℓ with
  | l k => cases hI'
  | o p => exact ⟨I, hI (.o p) I (.o p) hI' rfl, .inl rfl⟩
def resGet (tmps : Array Value) : ResultVar → Sem Value
  | .tmp t => pure (tmps.getD t undef)
  | .cell c t => do loadVar t (← asAddr (tmps.getD c undef))
def packV : List Value → Value
  | [y] => y
  | ys => .tuple ys.toArray
theorem run_results (fn : Func) (tmps : Array Value) (w : World) (ys : List Value) (h : (fn.results.toList.mapM (resGet tmps)).run P w = .ok ys w) :
    (results fn tmps).run P w = .ok (packV ys) w := by
  have e : results fn tmps = (do
      let vs ← fn.results.mapM (resGet tmps)
      pure (if h : vs.size = 1 then vs[0] else .tuple vs)) := by
    unfold results
    congr 1
  rw [e, Array.mapM_eq_mapM_toList]
  simp only [Sem.run_bind, Sem.run_map, h, Result.andThen_ok, Sem.run_pure]
  congr 1
  match ys with
  | [] => rfl
  | [y] => rfl
  | y :: z :: ys => simp [packV]
theorem tmps_get {a : Act} {w W M env} (E : Reps fid w W M a.tmps.toList env) (t : Nat) : Rep fid w W M (a.tmps.getD t undef) (env.getD t .dead) := by
  rw [List.getD_eq_getElem?_getD, Array.getD_eq_getD_getElem?]
  by_cases ht : t < env.length
  · have ht' : t < a.tmps.toList.length := by rw [E.1]; exact ht
    have := E.2 t _ _ (List.getElem?_eq_getElem ht') (List.getElem?_eq_getElem ht)
    rw [List.getElem?_eq_getElem ht, ← Array.getElem?_toList, List.getElem?_eq_getElem ht']
    exact this
  · rw [List.getElem?_eq_none (by omega)]
    exact .dead _
theorem run_resGet {a : Act} {w : World} {μ : Lab → Nat × Nat} {s : St} (R : StRel fid base w0 a w μ s.env s.h) {r : ResultVar} {rv : RV} {v : AV}
    (hc : chkRes P [r] [rv] = true) (hv : resVal s rv = some v) : ∃ y, (resGet a.tmps r).run P w = .ok y w ∧ Rep fid w (Wr μ s.h.get) (info μ s.h.get) y v := by
  cases r <;> cases rv <;> simp only [chkRes, Bool.and_true, Bool.and_eq_true, beq_iff_eq, Bool.false_eq_true] at hc
  · subst hc
    simp only [resVal, Option.some.injEq] at hv
    subst hv
    exact ⟨_, rfl, tmps_get R.env _⟩
  · obtain ⟨⟨rfl, h1⟩, h2⟩ := hc
    simp only [resVal] at hv
    obtain ⟨⟨v', h'⟩, hp, rfl⟩ := Option.map_eq_some_iff.1 hv
    obtain ⟨rfl, y, hy, r⟩ := s_load R.sim h1 h2 (tmps_get R.env _) hp
    refine ⟨y, ?_, r⟩
    rw [← hy]
    simp only [resGet, Instr.loadAt]
    generalize a.tmps.getD _ undef = x at hy ⊢
    unfold Instr.loadAt Instr.sureAddr at hy
    unfold asAddr Instr.sureAddr
    cases x <;> first | rfl | (simp at hy; done) | skip
    rename_i q
    cases q
    · simp at hy
    · rfl
theorem run_resVals {a : Act} {w : World} {μ : Lab → Nat × Nat} {s : St} (R : StRel fid base w0 a w μ s.env s.h) : ∀ {rs : List ResultVar} {rv : List RV} {vs : List AV},
    chkRes P rs rv = true → resVals s rv = some vs → ∃ ys : List Value, (rs.mapM (resGet a.tmps)).run P w = .ok ys w ∧ Reps fid w (Wr μ s.h.get) (info μ s.h.get) ys vs
  | [], [], vs, _, hv => by
    simp only [resVals, Option.some.injEq] at hv
    subst hv
    exact ⟨[], rfl, .nil⟩
  | r :: rs, v :: rv, vs, hc, hv => by
    have hc1 : chkRes P [r] [v] = true ∧ chkRes P rs rv = true := by
      cases r <;> cases v <;> simp_all [chkRes]
    simp only [resVals] at hv
    obtain ⟨x, hx, hv⟩ := Option.bind_eq_some_iff.1 hv
    obtain ⟨xs, hxs, rfl⟩ := Option.map_eq_some_iff.1 hv
    obtain ⟨y, hy, ry⟩ := run_resGet R hc1.1 hx
    obtain ⟨ys, hys, rys⟩ := run_resVals R hc1.2 hxs
    refine ⟨y :: ys, ?_, Reps.cons ry rys⟩
    simp only [List.mapM_cons, Sem.run_bind, hy, hys, Result.andThen_ok, Sem.run_pure]
  | [], _ :: _, _, hc, _ => by simp [chkRes] at hc
  | r :: _, [], _, hc, _ => by cases r <;> simp [chkRes] at hc
theorem packA_eq (vs : List AV) : (match vs with | [a] => a | vs => .tup vs) = packA vs := by
  match vs with
  | [] => rfl
  | [v] => rfl
  | v :: u :: vs => rfl
theorem pack_rep {w W M} {ys : List Value} {vs : List AV} (h : Reps fid w W M ys vs) : Rep fid w W M (packV ys) (packA vs) := by
  obtain ⟨h1, h2⟩ := h
  match ys, vs, h1 with
  | [], [], _ => exact .tup rfl h2
  | [y], [v], _ => exact h2 0 y v rfl rfl
  | y :: z :: ys, v :: u :: vs, h1 => exact .tup h1 h2
theorem call_sound {f : String} {args : List AV} {G : List (Option Blk)} {F : IFn} {o : Out} {s : St} {r : AV × List (Option Blk)}
    (hF : ∃ id fn, fid f = some id ∧ P.funcs[id]? = some fn ∧ chkFn P fid fn F = true)
    (hb : CodeSem P fid base w0 F.body (enter F args G) o s) (ho : o = .normal ∨ o = .ret) (hr : finish F s = some r) : CallSem P fid base w0 f args G r.1 r.2 := by
  obtain ⟨id, fn, hid, hfn, hck⟩ := hF
  unfold chkFn at hck
  simp only [Bool.and_eq_true, beq_iff_eq, bne_iff_ne, ne_eq] at hck
  obtain ⟨⟨⟨⟨_, hn⟩, hname⟩, hres⟩, hbody⟩ := hck
  cases hc : fn.body with
  | none => rw [hc] at hbody; cases hbody
  | some c =>
    rw [hc] at hbody
    refine ⟨id, fn, hid, hfn, hname, by rw [hc]; rfl, fun vs w μ S hO E => ?_⟩
    refine calls_of_wp hfn hc ?_
    refine hb c hbody _ w μ ⟨?_, hO, ?_, rfl⟩ _ fun a' w' μ' R p0 => ?_
    · simp only [enter]; rw [enter_get]; exact S
    · simp only [enter]; rw [enter_get]
      rw [show (vs.toArray ++ Array.replicate (fn.ntmps - vs.toArray.size) undef).toList = vs ++ List.replicate (F.ntmps - args.length) undef by simp [hn, E.1]]
      refine E.append ⟨by simp, fun i x a hx ha => ?_⟩
      rw [List.getElem?_replicate] at ha
      split at ha <;> cases ha
      exact .dead x
    · have p := p0.loud
      unfold finish at hr
      obtain ⟨ws, hws, hl⟩ := Option.bind_eq_some_iff.1 hr
      obtain ⟨ys, hys, rys⟩ := run_resVals R hres hws
      obtain ⟨μ2, S2, hW2, R2, hI2, hO2⟩ := sim_leave R.sim R.ord (pack_rep rys) (r' := r.1) (G' := r.2) (by rw [← packA_eq]; exact hl)
      have hpost : a'.defers = [] ∧ ∃ v, (results fn a'.tmps).run P w' = .ok v w' ∧ ∃ y, Ending.returned v = .returned y ∧ Post fid base w0 w μ (⟨G, []⟩ : Hp).get w' (⟨r.2, []⟩ : Hp).get y r.1 ∧ Ord r.2 := by
        refine ⟨R.defers, _, run_results fn a'.tmps w' ys hys, _, rfl, ⟨μ2, S2, ?_, R2⟩, hO2⟩
        have e0 : (enter F args G).h.get = (⟨G, []⟩ : Hp).get := by simp only [enter]; exact enter_get _ _
        rw [e0] at p
        refine ⟨p.heap, fun b hb h => p.wr b hb (hW2 b h), fun ℓ I hI => ?_, p.size⟩
        cases ℓ with
        | l k => simp [info, Hp.get] at hI
        | o q =>
          obtain ⟨I2, hI3, e⟩ := p.lab (.o q) I hI
          exact ⟨I2, hI2 q I2 hI3, e⟩
      rcases ho with rfl | rfl <;> exact hpost
theorem op_of_callIn {f : String} {sites : List Nat} {xs : List AV} {h : Hp} {F : IFn} {o : Out} {s' : St} {vs : List AV}
    (hF : ∃ id fn, fid f = some id ∧ P.funcs[id]? = some fn ∧ chkFn P fid fn F = true) (hcalm : F.body.calm = true)
    (hb : CodeSem P fid base w0 F.body ⟨xs ++ List.replicate (F.ntmps - xs.length) .dead, h⟩ o s') (ho : o = .normal ∨ o = .ret) (hv : resVals s' F.res = some vs) :
    OpSem P fid base w0 (.callIn f sites) xs h (packA vs) s'.h := by
  intro op ty act env ixs w μ hxs hck S hO E dst pos after guard K Q hK
  subst hxs
  obtain ⟨id, fn, hid, hfn, hckf⟩ := hF
  unfold chkFn at hckf
  simp only [Bool.and_eq_true, beq_iff_eq, bne_iff_ne, ne_eq] at hckf
  obtain ⟨⟨⟨⟨_, hn⟩, hname⟩, hres⟩, hbody⟩ := hckf
  cases hcb : fn.body with
  | none => rw [hcb] at hbody; cases hbody
  | some c =>
    rw [hcb] at hbody
    cases op <;> simp only [chkOp, Bool.false_eq_true] at hck
    rename_i cl
    obtain ⟨callee, args, ats⟩ := cl
    simp only [Bool.and_eq_true] at hck
    obtain ⟨hco, hx⟩ := hck
    unfold callOK at hco
    split at hco <;> first | (cases hco; done) | skip
    rename_i g
    simp only [beq_iff_eq] at hco
    rw [hid] at hco
    cases hco
    have R := opds_sound E hx
    have hargs : (args.map act.eval) = (args.toList.map act.eval).toArray := by apply Array.toList_inj.1; simp
    have hrun : (execOp act.eval ⟨dst, .call ⟨.value (.func id), args, ats⟩, ty, pos, after, guard⟩).run P w = .ok (.enter id (args.toList.map act.eval).toArray) w := by
      simp only [execOp, resolve, Act.eval, Deferred.ofValue, Sem.run_bind, Sem.run_pure, Result.andThen_ok, invoke]
      rw [run_callFunc hfn hname (by rw [hcb]; rfl)]
      rw [show (#[] ++ Array.map act.eval args ++ #[] : Array Value) = (args.toList.map act.eval).toArray by rw [hargs]; simp]
    unfold Oper.wp
    rw [hrun]
    have hcall : Calls P id (args.toList.map act.eval).toArray w fun e w' => ∃ y, e = .returned y ∧ Post fid base w0 w μ h.get w' s'.h.get y (packA vs) ∧ Ord s'.h.G := by
      refine calls_of_wp hfn hcb ?_
      refine hb c hbody _ w μ ⟨S, hO, ?_, rfl⟩ _ fun a' w' μ' R' p => ?_
      · rw [show ((args.toList.map act.eval).toArray ++ Array.replicate (fn.ntmps - (args.toList.map act.eval).toArray.size) undef).toList = args.toList.map act.eval ++ List.replicate (F.ntmps - (ixs.map (evalO env)).length) undef by simp only [Array.toList_append, Array.toList_replicate, hn]; rw [← R.1]; simp]
        refine R.append ⟨by simp, fun i x a hx ha => ?_⟩
        rw [List.getElem?_replicate] at ha
        split at ha <;> cases ha
        exact .dead x
      · obtain ⟨ys, hys, rys⟩ := run_resVals R' hres hv
        have p2 : Pres w (Wr μ h.get) (info μ h.get) w' (Wr μ' s'.h.get) (info μ' s'.h.get) := by rw [infC_t hcalm, infC_t hcalm] at p; exact p
        have hpost : a'.defers = [] ∧ ∃ v, (results fn a'.tmps).run P w' = .ok v w' ∧ ∃ y, Ending.returned v = .returned y ∧ Post fid base w0 w μ h.get w' s'.h.get y (packA vs) ∧ Ord s'.h.G :=
          ⟨R'.defers, _, run_results fn a'.tmps w' ys hys, _, rfl, ⟨μ', R'.sim, p2, pack_rep rys⟩, R'.ord⟩
        rcases ho with rfl | rfl <;> exact hpost
    refine Calls.mono hcall ?_
    rintro e w' ⟨y, rfl, hpost, hO'⟩
    exact hK y w' hpost hO'
theorem opsCons_sound {i : IOp} {l : List IOp} {s s1 s' : St} (st : StepSem0 P fid base w0 i s.env s.h s1.env s1.h) (h : OpsSem P fid base w0 l s1 s') :
    OpsSem P fid base w0 (i :: l) s s' := by
  intro ops os hc a w μ R Q hQ
  cases os with
  | nil => simp [chkOpers] at hc
  | cons o os =>
    simp only [chkOpers, Bool.and_eq_true] at hc
    simp only [wpList]
    exact step_sound0 hc.1 R st fun a' w' μ' R' p' => h ops os hc.2 a' w' μ' R' Q fun a2 w2 μ2 R2 p2 => hQ a2 w2 μ2 R2 (p'.trans p2)
theorem put_env {s : St} {dst : Option Nat} {a : AV} : (s.put dst a).env = putE s.env dst a := by cases dst <;> rfl
theorem put_h {s : St} {dst : Option Nat} {a : AV} : (s.put dst a).h = s.h := by cases dst <;> rfl
variable {prog : String → Option IFn}
theorem code_ops {l : List IOp} {s s' : St} (h : OpsSem P fid base w0 l s s') : CodeSem P fid base w0 (.ops l) s .normal s' := by
  intro cc hc a w μ R Q hQ
  cases cc <;> first | (simp [chkCode] at hc; done) | skip
  rename_i id ops b
  cases b
  case true => exact absurd (show false = true from hc) (by simp)
  have hc : chkOpers P fid ops ops.toList l = true := hc
  refine wp_region ?_
  have e := wpOps_eq_wpList (P := P) (ops := ops) (Q := Q) ops.toList 0 (fun j => by simp)
  rw [List.range_eq_range', show ops.size = ops.toList.length by simp, e]
  exact h ops ops.toList hc a w μ R Q fun a' w' μ' R' p' => hQ a' w' μ' R' p'.calm
theorem code_draw {l : List IOp} {s s' : St} (h : DrawSem P fid base w0 l s.env s.h s'.env s'.h) : CodeSem P fid base w0 (.draw l) s .normal s' := by
  intro cc hc a w μ R Q hQ
  cases cc <;> first | (simp [chkCode] at hc; done) | skip
  rename_i id ops b
  cases b
  case false => exact absurd (show false = true from hc) (by simp)
  have hc : (chkOpers P fid ops ops.toList l && drawOK ops l && P.follows .mixedOrders) = true := hc
  simp only [Bool.and_eq_true] at hc
  obtain ⟨⟨h1, h2⟩, h3⟩ := hc
  refine wp_region_any h3 ?_
  obtain ⟨S1, p1⟩ := R.sim.drawn (w.drawn + 1)
  have hlen := (chkOpers_at h1).1
  have hz : ((List.range l.length).zip l).map (·.2) = l := List.map_snd_zip (by simp)
  have hmem : ∀ i io, (i, io) ∈ (List.range l.length).zip l ↔ l[i]? = some io := by
    intro i io
    rw [List.mem_iff_getElem?]
    constructor
    · rintro ⟨k, hk⟩
      rw [List.getElem?_zip_eq_some] at hk
      obtain ⟨k1, k2⟩ := hk
      rw [List.getElem?_range] at k1
      · cases k1; exact k2
      · by_cases hlt : k < l.length
        · exact hlt
        · rw [List.getElem?_eq_none (by simp; omega)] at k1; cases k1
    · intro hi
      refine ⟨i, ?_⟩
      rw [List.getElem?_zip_eq_some]
      refine ⟨?_, hi⟩
      rw [List.getElem?_range]
      by_cases hlt : i < l.length
      · exact hlt
      · rw [List.getElem?_eq_none (by omega)] at hi; cases hi
  have hsz : ops.size = l.length := by simpa using hlen
  refine draw_any h1 h2 ops.size ((List.range l.length).zip l) (Array.replicate ops.size false) a _ μ s.env s.h ?_ (by simp) (fun i hi => ?_) (fun p hp => ?_) ?_ (fun j o ho hj => ?_)
    (by rw [hz]; exact h) ⟨S1, R.ord, R.env.pres p1, R.defers⟩ fun a' w' μ' R' p' => hQ a' w' μ' R' (p1.trans p').calm
  · simp [hsz]
  · constructor
    · intro _; exact ⟨l[i]'(by omega), (hmem _ _).2 (List.getElem?_eq_getElem _)⟩
    · intro _; simp [hi]
  · have := (hmem p.1 p.2).1 hp
    refine ⟨?_, this⟩
    by_cases hlt : p.1 < l.length
    · omega
    · rw [List.getElem?_eq_none (by omega)] at this; cases this
  · have h5 : ((List.range l.length).zip l).map (·.1) = List.range l.length := List.map_fst_zip (by simp)
    have h6 : (List.range l.length).Pairwise (· < ·) := List.pairwise_lt_range
    rw [← h5, List.pairwise_map] at h6
    exact h6
  · rw [Array.getD_eq_getD_getElem?, Array.getElem?_replicate] at hj
    split at hj <;> simp at hj
theorem ev_free {p : Prim} {xs : List AV} {h h' : Hp} {a : AV} (hf : p.free = true) (he : Ev prog (.op p xs h) (.val a h')) : prim h p xs = some (a, h') := by
  cases he with
  | prim hp => exact hp
  | opCall _ _ _ => simp [Prim.free] at hf
  | opCallV _ _ _ => simp [Prim.free] at hf
  | opIn _ _ _ _ _ _ => simp [Prim.free] at hf
theorem ev_home {p : Prim} {xs : List AV} {h h' : Hp} {a : AV} {k : Nat} (hf : p.home = some k) (he : Ev prog (.op p xs h) (.val a h')) : prim h p xs = some (a, h') := by
  cases he with
  | prim hp => exact hp
  | opCall _ _ _ => simp [Prim.home] at hf
  | opCallV _ _ _ => simp [Prim.home] at hf
  | opIn _ _ _ _ _ _ => simp [Prim.home] at hf
def FnOk (P : Program) (fid : String → Option FuncId) (f : String) (F : IFn) : Prop := ∃ id fn, fid f = some id ∧ P.funcs[id]? = some fn ∧ chkFn P fid fn F = true
theorem FnOk.x {f F} (h : FnOk P fid f F) : isX F = false := by
  obtain ⟨id, fn, _, _, h⟩ := h
  unfold chkFn at h
  simp only [Bool.and_eq_true, Bool.not_eq_true'] at h
  exact h.1.1.1.1
def XOk (P : Program) (fid : String → Option FuncId) (base : Nat) (w0 : World) (f : String) : Prop := ∀ args G r, xRun f args G = some r → CallSem P fid base w0 f args G r.1 r.2
theorem ev_soundX (hprog0 : ∀ f F, prog f = some F → FnOk P fid f F ∨ (F = xFn ∧ XOk P fid base w0 f)) {t : Task} {r : Res} (h : Ev prog t r) :
    Sem' P fid base w0 t r := by
  have hprog : ∀ f F, prog f = some F → F ≠ xFn → FnOk P fid f F := fun f F h hx => (hprog0 f F h).resolve_right fun e => hx e.1
  induction h with
  | @call f args G F o s r hf hb ho hr ih =>
    refine call_sound (hprog _ _ hf fun e => ?_) ih.1 ho hr
    subst e
    have hb : Ev prog (.code (.exit 0) (enter xFn args G)) (.out o s) := hb
    cases hb
    rcases ho with h | h <;> cases h
  | orc hf h =>
    rcases hprog0 _ _ hf with h1 | h1
    · have := h1.x; cases this
    · exact h1.2 _ _ _ h
  | skip =>
    refine ⟨fun cc hc a w μ R Q hQ => ?_, by simp⟩
    cases cc <;> simp only [chkCode, Bool.false_eq_true] at hc
    exact wp_skip (hQ _ _ _ R (.refl _ _ _))
  | ops h ih => exact ⟨code_ops ih, by simp⟩
  | draw h ih => exact ⟨code_draw ih, by simp⟩
  | @seq ca cb s s' r h h' ih ih' =>
    cases r with
    | out o s2 =>
      refine ⟨fun cc hc a w μ R Q hQ => ?_, by simp⟩
      cases cc <;> simp only [chkCode, Bool.false_eq_true, Bool.and_eq_true] at hc
      refine wp_seq (ih.1 _ hc.1 a w μ R _ fun a' w' μ' R' p' => ?_)
      have k1 : (ICode.seq ca cb).calm = true → ca.calm = true := fun h => by simp only [ICode.calm, Bool.and_eq_true] at h; exact h.1
      have k2 : (ICode.seq ca cb).calm = true → cb.calm = true := fun h => by simp only [ICode.calm, Bool.and_eq_true] at h; exact h.2
      exact ih'.1 _ hc.2 a' w' μ' R' Q fun a2 w2 μ2 R2 p2 => hQ _ _ _ R2 ((p'.weak k1).trans (p2.weak k2))
    | _ => trivial
  | @seqOut c1 c2 s o s' h ho ih =>
    refine ⟨fun cc hc a w μ R Q hQ => ?_, by simp⟩
    cases cc <;> simp only [chkCode, Bool.false_eq_true, Bool.and_eq_true] at hc
    have k1 : (ICode.seq c1 c2).calm = true → c1.calm = true := fun h => by simp only [ICode.calm, Bool.and_eq_true] at h; exact h.1
    refine wp_seq (ih.1 _ hc.1 a w μ R _ fun a' w' μ' R' p' => ?_)
    have := hQ a' w' μ' R' (p'.weak k1)
    cases o <;> first | exact absurd rfl ho | exact this
  | @cond c x y s t r hc' h ih =>
    cases r with
    | out o s2 =>
      refine ⟨fun cc hc a w μ R Q hQ => ?_, by simp⟩
      cases cc <;> simp only [chkCode, Bool.false_eq_true, Bool.and_eq_true] at hc
      obtain ⟨⟨h1, h2⟩, h3⟩ := hc
      have hv := opd_sound R.env h1
      rw [hc'] at hv
      refine wp_cond (t := t) hv.v_inv ?_
      have k1 : (ICode.cond c x y).calm = true → x.calm = true := fun h => by simp only [ICode.calm, Bool.and_eq_true] at h; exact h.1
      have k2 : (ICode.cond c x y).calm = true → y.calm = true := fun h => by simp only [ICode.calm, Bool.and_eq_true] at h; exact h.2
      cases t
      · exact ih.1 _ h3 a w μ R Q fun a2 w2 μ2 R2 p2 => hQ _ _ _ R2 (p2.weak k2)
      · exact ih.1 _ h2 a w μ R Q fun a2 w2 μ2 R2 p2 => hQ _ _ _ R2 (p2.weak k1)
    | _ => trivial
  | @block id a s o s' h ih =>
    refine ⟨fun cc hc a w μ R Q hQ => ?_, by simp⟩
    cases cc <;> simp only [chkCode, Bool.false_eq_true, Bool.and_eq_true, beq_iff_eq] at hc
    obtain ⟨rfl, hc⟩ := hc
    refine wp_block (ih.1 _ hc a w μ R _ fun a' w' μ' R' p' => ?_)
    have := hQ a' w' μ' R' (p'.weak fun h => h)
    split at this
    · rename_i ho; subst ho; simpa [Out.exit', Exit.inBlock] using this
    · rename_i ho
      cases o with
      | normal => exact this
      | ret => exact this
      | exit i =>
        simp only [Out.exit', Exit.inBlock] at this ⊢
        split
        · rename_i he; simp_all
        · exact this
  | @loop clr fre a s s1 s2 r hc h h' ih ih' =>
    cases r with
    | out o s3 =>
      have hl : LoopSem P fid base w0 clr fre a s o s3 := by
        obtain ⟨n, hn⟩ := ih'.2 _ _ _ rfl
        refine ⟨n + 1, fun cc hcc ac w μ R Q hQ => ?_⟩
        obtain ⟨R1, p1⟩ := sim_clear R hc
        rw [rounds_succ]
        refine ih.1 _ hcc ac w μ R1 _ fun a' w' μ' R' p0 => ?_
        have p' := p0.loud
        exact hn _ hcc a' w' μ' R' Q fun a2 w2 μ2 R2 p2 => hQ _ _ _ R2 ((p1.trans p').trans p2)
      refine ⟨fun cc hcc ac w μ R Q hQ => ?_, fun _ _ _ e => by cases e; exact hl⟩
      cases cc <;> simp only [chkCode, Bool.false_eq_true] at hcc
      obtain ⟨n, hn⟩ := hl
      exact wp_loop_rounds n (hn _ hcc ac w μ R Q hQ)
    | _ => trivial
  | @loopOut clr fre a s s1 o s2 hc h ho ih =>
    have hl : LoopSem P fid base w0 clr fre a s o s2 := by
      refine ⟨1, fun cc hcc ac w μ R Q hQ => ?_⟩
      obtain ⟨R1, p1⟩ := sim_clear R hc
      rw [rounds_succ]
      refine ih.1 _ hcc ac w μ R1 _ fun a' w' μ' R' p0 => ?_
      have p' := p0.loud
      have := hQ a' w' μ' R' (p1.trans p')
      cases o <;> first | exact absurd rfl ho | exact this
    refine ⟨fun cc hcc ac w μ R Q hQ => ?_, fun _ _ _ e => by cases e; exact hl⟩
    cases cc <;> simp only [chkCode, Bool.false_eq_true] at hcc
    obtain ⟨n, hn⟩ := hl
    exact wp_loop_rounds n (hn _ hcc ac w μ R Q hQ)
  | @post mv c s s1 s2 h hm ih =>
    refine ⟨fun cc hc a w μ R Q hQ => ?_, by simp⟩
    have hc' : chkCode P fid cc c = true := by cases cc <;> simpa only [chkCode] using hc
    refine ih.1 _ hc' _ w μ R _ fun a' w' μ' R' p0 => ?_
    have p' := p0.loud
    obtain ⟨μ2, R2, p2⟩ := sim_move R' hm
    exact hQ _ _ _ R2 (p'.trans p2)
  | @postOut mv c s o s1 h ho ih =>
    refine ⟨fun cc hc a w μ R Q hQ => ?_, by simp⟩
    have hc' : chkCode P fid cc c = true := by cases cc <;> simpa only [chkCode] using hc
    exact ih.1 _ hc' _ w μ R _ fun a' w' μ' R' p' => hQ _ _ _ R' p'.loud
  | @postIf g mv c s s1 s2 h hm ih =>
    refine ⟨fun cc hc a w μ R Q hQ => ?_, by simp⟩
    have hc' : chkCode P fid cc c = true := by cases cc <;> simpa only [chkCode] using hc
    refine ih.1 _ hc' _ w μ R _ fun a' w' μ' R' p0 => ?_
    have p' := p0.loud
    rcases mvIf_or hm with hm | rfl
    · obtain ⟨μ2, R2, p2⟩ := sim_move R' hm
      exact hQ _ _ _ R2 (p'.trans p2)
    · exact hQ _ _ _ R' p'
  | @postIfOut g mv c s o s1 h ho ih =>
    refine ⟨fun cc hc a w μ R Q hQ => ?_, by simp⟩
    have hc' : chkCode P fid cc c = true := by cases cc <;> simpa only [chkCode] using hc
    exact ih.1 _ hc' _ w μ R _ fun a' w' μ' R' p' => hQ _ _ _ R' p'.loud
  | exit =>
    refine ⟨fun cc hc a w μ R Q hQ => ?_, by simp⟩
    cases cc <;> simp only [chkCode, Bool.false_eq_true, beq_iff_eq] at hc
    subst hc
    exact wp_exit (hQ _ _ _ R (.refl _ _ _))
  | ret =>
    refine ⟨fun cc hc a w μ R Q hQ => ?_, by simp⟩
    cases cc <;> simp only [chkCode, Bool.false_eq_true] at hc
    exact wp_ret (hQ _ _ _ R (.refl _ _ _))
  | prim hp => exact op_of_prim hp
  | opCall hi hc hb ih => exact op_of_call hi ih hb
  | opCallV hi hc hb ih => exact op_of_callV hi ih hb
  | @opIn f sites xs h F o s' vs hf hc hb ho hv hl ih =>
    refine op_of_callIn (hprog _ _ hf fun e => ?_) hc ih.1 ho hv
    subst e
    have hb : Ev prog (.code (.exit 0) _) (.out o s') := hb
    cases hb
    rcases ho with h | h <;> cases h
  | opsNil =>
    intro ops os hc a w μ R Q hQ
    cases os with
    | nil => exact hQ _ _ _ R (.refl _ _ _)
    | cons o os => simp [chkOpers] at hc
  | @opsSkip i l s s' hg h ih =>
    exact opsCons_sound (s1 := s.put i.dst (.v undef)) (.inl ⟨hg, put_env, put_h⟩) ih
  | @opsCons i l s a h' s' hg ho h iho ih =>
    refine opsCons_sound (s1 := ({ s with h := h' } : St).put i.dst a) (.inr ⟨hg, a, ?_, put_env⟩) ih
    rw [put_h]
    exact iho
  | drawNil => exact ⟨rfl, rfl⟩
  | @drawSkip i l s s' hg h ih => exact ⟨_, _, .inl ⟨hg, put_env, put_h⟩, ih⟩
  | @drawCons i l s a h' s' hg ho hd hq hu h iho ih =>
    have ih2 : DrawSem P fid base w0 l (({ s with h := h' } : St).put i.dst a).env (({ s with h := h' } : St).put i.dst a).h s'.env s'.h := ih
    rw [put_env, put_h] at ih2
    refine ⟨_, _, .inr ⟨hg, a, ?_, rfl⟩, ih2⟩
    have hd' : ∀ k B, k ∈ i.u ++ i.turns → s.h.L[k]? = some (some B) → B.labs.all (refLt s.h.G.length k) = true := by
      intro k B hk hB
      have := List.all_eq_true.1 hd k hk
      rw [hB] at this
      exact this
    have hplain : Ev prog (.op i.p (i.xs.map (evalO s.env)) s.h) (.val a h') := by
      have hX : okX s.h.G.length fun k => if k ∈ i.u then (s.h.L[k]?).join else none := fun k B hB => by
        replace hB : (if k ∈ i.u then _ else none) = some B := hB
        split at hB
        · rename_i hk
          refine hd' k B (by simp [hk]) ?_
          cases hl : s.h.L[k]? with
          | none => rw [hl] at hB; cases hB
          | some x => rw [hl] at hB; exact congrArg some hB
        · cases hB
      have e3 := ho _ hX
      have e1 : s.h.over i.u (fun k => if k ∈ i.u then (s.h.L[k]?).join else none) = s.h := by
        refine Hp.over_ext rfl fun k => ?_
        simp only [Hp.over, over_get]
        split
        · rename_i hk; rw [if_pos hk.1, List.getElem?_eq_getElem hk.2]; rfl
        · rfl
      have e2 : h'.over i.u (fun k => if k ∈ i.u then (s.h.L[k]?).join else none) = h' := by
        refine Hp.over_ext rfl fun k => ?_
        simp only [Hp.over, over_get]
        split
        · rename_i hk; rw [if_pos hk.1, ← hu k hk.1, List.getElem?_eq_getElem hk.2]; rfl
        · rfl
      rw [e1, e2] at e3
      exact e3
    by_cases hf : i.p.free = true
    · have e3 := free_prim hf (ev_free hf hplain)
      exact .inl ⟨hf, e3.1, fun h'' => op_of_prim (e3.2 h'')⟩
    · cases hh : i.p.home with
      | some k =>
        have e3 := home_prim hh (ev_home hh hplain)
        exact .inr (.inl ⟨k, hh, e3.1, fun h'' e => op_of_prim (e3.2 h'' e)⟩)
      | none =>
      refine .inr (.inr ⟨by simpa using hf, hh, iho, ?_, hu, hd'⟩)
      rcases hq with hq | ⟨hq, hok⟩
      · exact .inl hq
      · right
        refine ⟨fun k => if k ∈ i.turns then (h'.L[k]?).join else none, fun k B hB => ?_, ?_⟩
        · replace hB : (if k ∈ i.turns then _ else none) = some B := hB
          split at hB
          · rename_i hk
            have := List.all_eq_true.1 hok k hk
            rw [hB] at this
            exact this
          · cases hB
        · refine hq.trans (Hp.over_ext rfl fun k => ?_)
          simp only [Hp.over, over_get]
          split
          · rename_i hk; rw [if_pos hk.1]
          · rfl
end Go.AM
namespace Go.AM
open Go.RowKit
variable {P : Program} {fid : String → Option FuncId}
theorem law_callsX {prog : String → Option IFn} (hprog : ∀ base w0 f F, prog f = some F → FnOk P fid f F ∨ (F = xFn ∧ XOk P fid base w0 f))
    {f : String} {id : FuncId} (hid : fid f = some id) {args : List AV} {vs : List Value} {w : World} {x : Value} {G2 : List (Option Blk)}
    (hr : Reps fid w (fun _ => False) (fun _ => none) vs args) (he : Ev prog (.call f args []) (.ret (.v x) G2)) :
    Calls P id vs.toArray w fun e w' => e = .returned x ∧ Below w.heap.size w w' := by
  obtain ⟨id', fn, h1, h2, h3, h4, h5⟩ := ev_soundX (base := w.heap.size) (w0 := w) (hprog _ _) he
  rw [hid] at h1
  cases h1
  have hnone : ∀ ℓ, (⟨[], []⟩ : Hp).get ℓ = none := by intro ℓ; cases ℓ <;> simp [Hp.get]
  have hW : (Wr (fun _ => (0, 0)) (⟨[], []⟩ : Hp).get) = fun _ => False := by
    funext b
    simp only [Wr, hnone, eq_iff_iff, iff_false]
    rintro ⟨ℓ, B, h, _⟩
    cases h
  have hI : (info (fun _ => (0, 0)) (⟨[], []⟩ : Hp).get) = fun _ => none := by
    funext ℓ
    simp [info, hnone]
  refine Calls.mono (h5 vs w (fun _ => (0, 0)) ⟨.refl _ _, Nat.le_refl _, ⟨fun ℓ B h => ?_, fun ℓ ℓ' B B' h => ?_⟩⟩ (fun p B h => ?_) ?_) ?_
  · rw [hnone] at h; cases h
  · rw [hnone] at h; cases h
  · simp at h
  · rw [hW, hI]; exact hr
  · rintro e w' ⟨y, rfl, ⟨μ', S, _, R⟩, _⟩
    rw [R.v_inv]
    exact ⟨rfl, S.below⟩
theorem law_calls {prog : String → Option IFn} (hprog : ∀ f F, prog f = some F → ∃ id fn, fid f = some id ∧ P.funcs[id]? = some fn ∧ chkFn P fid fn F = true)
    {f : String} {id : FuncId} (hid : fid f = some id) {args : List AV} {vs : List Value} {w : World} {x : Value} {G2 : List (Option Blk)}
    (hr : Reps fid w (fun _ => False) (fun _ => none) vs args) (he : Ev prog (.call f args []) (.ret (.v x) G2)) :
    Calls P id vs.toArray w fun e w' => e = .returned x ∧ Below w.heap.size w w' := law_callsX (fun _ _ f F h => .inl (hprog f F h)) hid hr he
end Go.AM
