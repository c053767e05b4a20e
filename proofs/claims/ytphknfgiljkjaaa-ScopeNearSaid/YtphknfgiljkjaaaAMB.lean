import Derived.Test.YtphknfgiljkjaaaAMA
import Derived.Lib.ConvBytes
set_option linter.unusedVariables false
set_option linter.unusedSimpArgs false
namespace Go.AM
open Go.RowKit
variable {fid : String → Option FuncId} {P : Program}
section
variable {w : World} {W : Nat → Prop} {M : Lab → Option LInfo}
theorem tByteSlice_inv {t} (h : tByteSlice P t = true) : ∃ e, P.underlying t = some (.slice e) ∧ tSize P e 1 = true ∧ P.underlying e = some (.int .u8) := by
  unfold tByteSlice at h
  split at h <;> first | (cases h; done) | skip
  rename_i e hu
  simp only [Bool.and_eq_true] at h
  refine ⟨e, hu, h.1, ?_⟩
  have := h.2
  split at this
  · assumption
  · cases this
theorem bytesOf_reps : ∀ {cs : List AV} {us : List Value} {bs : List UInt8}, Reps fid w W M us cs → bytesOf cs = some bs →
    ∃ ns : List Int, us = ns.map (Value.int .u8) ∧ bs = ns.map fun n => UInt8.ofNat n.toNat
  | [], us, bs, R, h => by have := R.nil_inv; subst this; simp [bytesOf] at h; subst h; exact ⟨[], rfl, rfl⟩
  | c :: cs, us, bs, R, h => by
    obtain ⟨v, vs, rfl, r, rs⟩ := R.cons_inv
    simp only [bytesOf] at h
    obtain ⟨b, hb, h2⟩ := Option.bind_eq_some_iff.1 h
    obtain ⟨bs', hbs, rfl⟩ := Option.map_eq_some_iff.1 h2
    unfold byteOf at hb
    split at hb
    · rename_i n
      cases hb
      have := r.v_inv; subst this
      obtain ⟨ns, rfl, rfl⟩ := bytesOf_reps rs hbs
      exact ⟨n :: ns, rfl, rfl⟩
    · cases hb
theorem foldl_push (ns : List Int) : ∀ (s : ByteArray), ns.foldl (fun r n => r.push (UInt8.ofNat n.toNat)) s = ⟨s.data ++ (ns.map fun n => UInt8.ofNat n.toNat).toArray⟩ := by
  induction ns with
  | nil => intro s; cases s; simp
  | cons n ns ih =>
    intro s
    rw [List.foldl_cons, ih]
    cases s
    simp [ByteArray.push]
theorem s_bytesStr {base w0 μ} {h h' : Hp} (S : Sim fid base w0 w μ h.get) {s d x a r} (hs : tByteSlice P s = true) (hd : tString P d = true)
    (R : Rep fid w (Wr μ h.get) (info μ h.get) x a) (hp : prim h .bytesStr [a] = some (r, h')) :
    h' = h ∧ ∃ y, (convert s d x).run P w = .ok y w ∧ Rep fid w (Wr μ h.get) (info μ h.get) y r := by
  obtain ⟨e, hu, hs1, he⟩ := tByteSlice_inv hs
  unfold tString at hd
  split at hd <;> first | cases hd; done | skip
  rename_i hdd
  simp only [prim] at hp
  obtain ⟨cs, hcs, hp2⟩ := Option.bind_eq_some_iff.1 hp
  split at hp2 <;> first | (cases hp2; done) | skip
  rename_i hl
  obtain ⟨bs, hbs, he2⟩ := Option.map_eq_some_iff.1 hp2
  cases he2
  obtain ⟨ad, C, us, rfl, hul, RR, h1, hsp, hcell, hnone⟩ := sees_sound S R hl hcs
  obtain ⟨ns, rfl, rfl⟩ := bytesOf_reps RR hbs
  refine ⟨rfl, _, ?_, .v _⟩
  rw [run_convert_bytes_string w s d e ad cs.length C hu he hdd]
  cases ad with
  | none =>
    have := hnone rfl
    simp only [List.map_eq_nil_iff] at this
    subst this
    simp [Conv.bytesToString]; rfl
  | some ad =>
    have hn : cs.length = (ns.map (Value.int .u8)).length := hul.symm
    have hload := run_loadCells_list (P := P) w ad (ns.map (Value.int .u8)) fun j v hj => hcell ad rfl j v hj
    rw [← hn] at hload
    rw [run_bytesToString w ad cs.length C ns hload, foldl_push]
    simp
def leafOK : Leaf → Value → Value → Option Bool
  | .int, .int k a, .int k' b => if k = k' then some (a == b) else none
  | .bool, .bool a, .bool b => some (a == b)
  | .str, .string a, .string b => some (a.toList == b.toList)
  | _, _, _ => none
def leavesOK : List Leaf → List Value → List Value → Option Bool
  | [], [], [] => some true
  | l :: ls, a :: as, b :: bs => match leafOK l a b, leavesOK ls as bs with
    | some p, some q => some (p && q)
    | _, _ => none
  | _, _, _ => none
theorem leafOK_int {x y : Value} {p : Bool} (h : leafOK .int x y = some p) : ∃ k a b, x = .int k a ∧ y = .int k b ∧ p = (a == b) := by
  cases x <;> cases y <;> simp only [leafOK, reduceCtorEq] at h
  split at h <;> cases h
  rename_i hk; subst hk
  exact ⟨_, _, _, rfl, rfl, rfl⟩
theorem leafOK_bool {x y : Value} {p : Bool} (h : leafOK .bool x y = some p) : ∃ a b, x = .bool a ∧ y = .bool b ∧ p = (a == b) := by
  cases x <;> cases y <;> simp only [leafOK, reduceCtorEq] at h
  cases h
  exact ⟨_, _, rfl, rfl, rfl⟩
theorem leafOK_str {x y : Value} {p : Bool} (h : leafOK .str x y = some p) : ∃ a b, x = .string a ∧ y = .string b ∧ p = (a.toList == b.toList) := by
  cases x <;> cases y <;> simp only [leafOK, reduceCtorEq] at h
  cases h
  exact ⟨_, _, rfl, rfl, rfl⟩
theorem cellsEq_reps : ∀ {ls : List Leaf} {as bs : List AV} {xs ys : List Value} {r : Bool}, Reps fid w W M xs as → Reps fid w W M ys bs → cellsEq ls as bs = some r → leavesOK ls xs ys = some r
  | [], as, bs, xs, ys, r, R, R', h => by
    cases as <;> cases bs <;> simp only [cellsEq, reduceCtorEq, Option.some.injEq] at h
    have := R.nil_inv; subst this
    have := R'.nil_inv; subst this
    simp [leavesOK, h]
  | l :: ls, as, bs, xs, ys, r, R, R', h => by
    cases as <;> cases bs <;> simp only [cellsEq, reduceCtorEq] at h
    rename_i a as b bs
    obtain ⟨x, xs, rfl, r1, rs1⟩ := R.cons_inv
    obtain ⟨y, ys, rfl, r2, rs2⟩ := R'.cons_inv
    split at h <;> cases h
    rename_i p q hp hq
    have ih := cellsEq_reps rs1 rs2 hq
    have hp' : leafOK l x y = some p := by
      unfold cellEq at hp
      split at hp <;> first | (cases hp; done) | skip
      all_goals
        have := r1.v_inv; subst this
        have := r2.v_inv; subst this
        simpa [leafOK] using hp
    simp [leavesOK, hp', ih]
theorem leavesOK_split : ∀ {l1 l2 : List Leaf} {xs ys : List Value} {r : Bool}, leavesOK (l1 ++ l2) xs ys = some r →
    ∃ r1 r2, leavesOK l1 (xs.take l1.length) (ys.take l1.length) = some r1 ∧ leavesOK l2 (xs.drop l1.length) (ys.drop l1.length) = some r2 ∧ r = (r1 && r2)
  | [], l2, xs, ys, r, h => ⟨true, r, by simp [leavesOK], by simpa using h, by simp⟩
  | l :: l1, l2, xs, ys, r, h => by
    cases xs <;> cases ys <;> simp only [List.cons_append, leavesOK, reduceCtorEq] at h
    split at h <;> cases h
    rename_i p q hp hq
    obtain ⟨r1, r2, h1, h2, rfl⟩ := leavesOK_split hq
    refine ⟨p && r1, r2, by simp [leavesOK, hp, h1], by simpa using h2, by simp [Bool.and_assoc]⟩
theorem leavesOK_length : ∀ {ls : List Leaf} {xs ys : List Value} {r : Bool}, leavesOK ls xs ys = some r → xs.length = ls.length ∧ ys.length = ls.length
  | [], xs, ys, r, h => by cases xs <;> cases ys <;> simp [leavesOK] at h ⊢
  | l :: ls, xs, ys, r, h => by
    cases xs <;> cases ys <;> simp only [leavesOK, reduceCtorEq] at h
    split at h <;> cases h
    rename_i p q hp hq
    obtain ⟨h1, h2⟩ := leavesOK_length hq
    simp [h1, h2]
def toVal (agg : Bool) (xs : List Value) : Value := if agg then .agg xs.toArray else xs.getD 0 undef
theorem run_part {t n agg} {xs : List Value} {off : Nat} (hs : tSize P t n = true) (hag : tAgg P t agg = true) (hle : off + n ≤ xs.length) (hn : agg = false → 0 < n) (w : World) :
    (part t xs.toArray off).run P w = .ok (toVal agg ((xs.drop off).take n)) w := by
  cases agg with
  | true => simp [part, tAgg_run hag, tSize_run hs, List.extract_eq_take_drop, toVal]
  | false =>
    have hn := hn rfl
    have hlt : off < xs.length := by omega
    simp [part, tAgg_run hag, toVal, hlt, hn]
theorem leaves_agg {n t ls} (h : leaves P n t = some ls) : ∃ agg, tAgg P t agg = true ∧ (agg = false → ls.length = 1) := by
  cases n with
  | zero => simp [leaves] at h
  | succ n =>
    unfold leaves at h
    split at h <;> rename_i hu <;> first | (cases h; done) | skip
    · cases h; exact ⟨false, by simp [tAgg, hu], fun _ => rfl⟩
    · cases h; exact ⟨false, by simp [tAgg, hu], fun _ => rfl⟩
    · cases h; exact ⟨false, by simp [tAgg, hu], fun _ => rfl⟩
    · exact ⟨true, by simp [tAgg, hu], fun h => by cases h⟩
    · exact ⟨true, by simp [tAgg, hu], fun h => by cases h⟩
theorem leaves_sound : ∀ (n : Nat) (t : TypeId) (ls : List Leaf), leaves P n t = some ls → ∀ (d : Nat), n ≤ d → ∀ (agg : Bool), tAgg P t agg = true →
    ∀ (xs ys : List Value) (r : Bool), leavesOK ls xs ys = some r → ∀ w : World, (Op.equalIn d t (toVal agg xs) (toVal agg ys)).run P w = .ok r w := by
  intro n
  induction n with
  | zero => intro t ls h; simp [leaves] at h
  | succ n ih =>
    intro t ls h d hd agg hag xs ys r hr w
    obtain ⟨d, rfl⟩ : ∃ k, d = k + 1 := ⟨d - 1, by omega⟩
    obtain ⟨l1, l2⟩ := leavesOK_length hr
    unfold leaves at h
    split at h <;> rename_i hu <;> first | (cases h; done) | skip
    · cases h
      have hf : agg = false := by simpa [tAgg, hu] using hag
      subst hf
      obtain ⟨x, rfl⟩ := List.length_eq_one_iff.1 l1
      obtain ⟨y, rfl⟩ := List.length_eq_one_iff.1 l2
      simp only [leavesOK] at hr
      split at hr <;> cases hr
      rename_i p q hp hq
      cases hq
      obtain ⟨k, a, b, rfl, rfl, rfl⟩ := leafOK_int hp
      simp [toVal, run_equalIn_int w d t _ _ _ _ hu]
    · cases h
      have hf : agg = false := by simpa [tAgg, hu] using hag
      subst hf
      obtain ⟨x, rfl⟩ := List.length_eq_one_iff.1 l1
      obtain ⟨y, rfl⟩ := List.length_eq_one_iff.1 l2
      simp only [leavesOK] at hr
      split at hr <;> cases hr
      rename_i p q hp hq
      cases hq
      obtain ⟨a, b, rfl, rfl, rfl⟩ := leafOK_bool hp
      simp [toVal, run_equalIn_bool w d t _ _ hu]
    · cases h
      have hf : agg = false := by simpa [tAgg, hu] using hag
      subst hf
      obtain ⟨x, rfl⟩ := List.length_eq_one_iff.1 l1
      obtain ⟨y, rfl⟩ := List.length_eq_one_iff.1 l2
      simp only [leavesOK] at hr
      split at hr <;> cases hr
      rename_i p q hp hq
      cases hq
      obtain ⟨a, b, rfl, rfl, rfl⟩ := leafOK_str hp
      simp [toVal, run_equalIn_string w d t _ _ hu]
    · rename_i fs
      have hf : agg = true := by simpa [tAgg, hu] using hag
      subst hf
      split at h <;> first | (cases h; done) | skip
      rename_i hst
      have hfs : P.fieldsOf t = fs := by simp [Program.fieldsOf, hu]
      rw [show toVal true xs = .agg xs.toArray from rfl, show toVal true ys = .agg ys.toArray from rfl,
        run_equalIn_struct w d t _ _ (by rw [hfs]; exact hu) (by simpa using hst), hfs]
      have key : ∀ (gs : List Field) (off : Nat) (ls : List Leaf), leafFields P (leaves P n) gs off = some ls → ∀ (r : Bool),
          leavesOK ls ((xs.drop off).take ls.length) ((ys.drop off).take ls.length) = some r → off + ls.length ≤ xs.length → off + ls.length ≤ ys.length →
          (Op.eqFields d xs.toArray ys.toArray gs).run P w = .ok r w := by
        intro gs
        induction gs with
        | nil => intro off ls h r hr _ _; simp [leafFields] at h; subst h; simp [leavesOK] at hr; subst hr; simp [Op.eqFields]
        | cons g gs ihg =>
          intro off ls h r hr h1 h2
          simp only [leafFields] at h
          split at h <;> first | (cases h; done) | skip
          rename_i hg
          simp only [Bool.and_eq_true, bne_iff_ne, beq_iff_eq] at hg
          obtain ⟨hg1, hg2⟩ := hg
          obtain ⟨l, hl, h⟩ := Option.bind_eq_some_iff.1 h
          split at h <;> first | (cases h; done) | skip
          rename_i hsz
          obtain ⟨l', hl', rfl⟩ := Option.map_eq_some_iff.1 h
          obtain ⟨ag, hag, hag1⟩ := leaves_agg hl
          simp only [List.length_append] at h1 h2 hr
          obtain ⟨r1, r2, e1, e2, rfl⟩ := leavesOK_split hr
          rw [List.take_take, List.take_take, Nat.min_eq_left (by omega)] at e1
          rw [List.drop_take, List.drop_take, List.drop_drop, List.drop_drop, Nat.add_sub_cancel_left] at e2
          have p1 := run_part (P := P) (xs := xs) (off := off) hsz hag (by omega) (fun h => by rw [hag1 h]; omega) w
          have p2 := run_part (P := P) (xs := ys) (off := off) hsz hag (by omega) (fun h => by rw [hag1 h]; omega) w
          have p3 := ih g.type l hl d (by omega) ag hag _ _ r1 e1 w
          have p4 := ihg (off + l.length) l' hl' r2 e2 (by omega) (by omega)
          simp only [Op.eqFields, if_pos hg1, Sem.run_bind, hg2, p1, p2, p3, Result.andThen_ok]
          cases r1
          · simp
          · simpa using p4
      refine key fs.toList 0 ls h r ?_ (by omega) (by omega)
      rw [List.drop_zero, List.drop_zero, List.take_of_length_le (by omega), List.take_of_length_le (by omega)]
      exact hr
    · rename_i k e
      have hf : agg = true := by simpa [tAgg, hu] using hag
      subst hf
      obtain ⟨l, hl, h⟩ := Option.bind_eq_some_iff.1 h
      split at h <;> first | (cases h; done) | skip
      rename_i hsz
      cases h
      have hi : ∃ i, P.info? e = some i ∧ P.cellsOf e = l.length := by
        unfold tSize at hsz
        split at hsz
        · rename_i i hi; exact ⟨i, hi, by simpa [Program.cellsOf, hi] using hsz⟩
        · cases hsz
      obtain ⟨i, hi, hce⟩ := hi
      rw [show toVal true xs = .agg xs.toArray from rfl, show toVal true ys = .agg ys.toArray from rfl, run_equalIn_array (w := w) d _ _ hu hi, hce]
      obtain ⟨ag, hag, hag1⟩ := leaves_agg hl
      have key : ∀ (k j : Nat) (r : Bool), leavesOK (List.replicate k l).flatten ((xs.drop (j * l.length)).take (k * l.length)) ((ys.drop (j * l.length)).take (k * l.length)) = some r →
          (j + k) * l.length ≤ xs.length → (j + k) * l.length ≤ ys.length → (Op.eqItems d e l.length xs.toArray ys.toArray (List.range' j k)).run P w = .ok r w := by
        intro k
        induction k with
        | zero => intro j r hr _ _; simp [leavesOK] at hr; subst hr; simp [Op.eqItems]
        | succ k ihk =>
          intro j r hr h1 h2
          have ea : (j + (k + 1)) * l.length = j * l.length + l.length + k * l.length := by rw [Nat.add_mul, Nat.add_mul]; omega
          have eb : (k + 1) * l.length = l.length + k * l.length := by rw [Nat.add_mul]; omega
          have ec : (j + 1 + k) * l.length = j * l.length + l.length + k * l.length := by rw [Nat.add_mul, Nat.add_mul]; omega
          have ed : (j + 1) * l.length = j * l.length + l.length := by rw [Nat.add_mul]; omega
          rw [List.replicate_succ, List.flatten_cons] at hr
          obtain ⟨r1, r2, e1, e2, rfl⟩ := leavesOK_split hr
          rw [List.take_take, List.take_take, Nat.min_eq_left (by omega)] at e1
          rw [List.drop_take, List.drop_take, List.drop_drop, List.drop_drop, eb, Nat.add_sub_cancel_left, ← ed] at e2
          have p1 := run_part (P := P) (xs := xs) (off := j * l.length) hsz hag (by omega) (fun h => by rw [hag1 h]; omega) w
          have p2 := run_part (P := P) (xs := ys) (off := j * l.length) hsz hag (by omega) (fun h => by rw [hag1 h]; omega) w
          have p3 := ih e l hl d (by omega) ag hag _ _ r1 e1 w
          have p4 := ihk (j + 1) r2 e2 (by omega) (by omega)
          simp only [List.range'_succ, Op.eqItems, Sem.run_bind, p1, p2, p3, Result.andThen_ok]
          cases r1
          · simp
          · simpa using p4
      have hlen : (List.replicate k l).flatten.length = k * l.length := by simp
      rw [List.range_eq_range']
      refine key k 0 r ?_ (by rw [Nat.zero_add]; omega) (by rw [Nat.zero_add]; omega)
      rw [Nat.zero_mul, List.drop_zero, List.drop_zero, List.take_of_length_le (by omega), List.take_of_length_le (by omega)]
      exact hr
end
end Go.AM
namespace Go.AM
open Go.RowKit
variable {fid : String → Option FuncId} {P : Program}
section
variable {w : World} {W : Nat → Prop} {M : Lab → Option LInfo}
theorem cellsOf_agg {x a as} (R : Rep fid w W M x a) (h : a.cellsOf = some as) : ∃ xs : List Value, ∃ agg, x = toVal agg xs ∧ Reps fid w W M xs as ∧ (agg = false → xs.length = 1) ∧
    (agg = true ↔ ∃ cs, a = .agg cs) ∧ x.cells.toList = xs := by
  cases a with
  | agg cs =>
    simp only [AV.cellsOf, Option.some.injEq] at h; subst h
    cases R with
    | @agg xs _ h1 h2 hc => exact ⟨xs, true, rfl, ⟨h1, hc⟩, fun h => (by cases h), by simp, by simp [Value.cells]⟩
  | tup => simp [AV.cellsOf] at h
  | dead => simp [AV.cellsOf] at h
  | v y =>
    have := R.v_inv; subst this
    cases x <;> simp only [AV.cellsOf, reduceCtorEq, Option.some.injEq] at h <;> subst h <;>
      exact ⟨[_], false, rfl, Reps.cons (.v _) .nil, fun _ => rfl, by simp, by simp [Value.cells]⟩
  | ptr => simp only [AV.cellsOf, Option.some.injEq] at h; subst h; refine ⟨[x], false, rfl, Reps.cons R .nil, fun _ => rfl, by simp, ?_⟩; cases R; simp [Value.cells]
  | own =>
    simp only [AV.cellsOf, Option.some.injEq] at h; subst h; refine ⟨[x], false, rfl, Reps.cons R .nil, fun _ => rfl, by simp, ?_⟩
    cases R with | own hM hn hh hlen => obtain ⟨a, C, rfl, _⟩ := hlen; simp [Value.cells]
  | ro nl =>
    simp only [AV.cellsOf, Option.some.injEq] at h; subst h; refine ⟨[x], false, rfl, Reps.cons R .nil, fun _ => rfl, by simp, ?_⟩
    cases R with
    | ro us hlen hlf hro hcs =>
      cases nl with
      | true => obtain ⟨rfl, _⟩ := hro.1 rfl; simp [Value.cells]
      | false => obtain ⟨a, C, rfl, _⟩ := hro.2 rfl; simp [Value.cells]
  | rop => simp only [AV.cellsOf, Option.some.injEq] at h; subst h; refine ⟨[x], false, rfl, Reps.cons R .nil, fun _ => rfl, by simp, ?_⟩; cases R; simp [Value.cells]
  | fn => simp only [AV.cellsOf, Option.some.injEq] at h; subst h; refine ⟨[x], false, rfl, Reps.cons R .nil, fun _ => rfl, by simp, ?_⟩; cases R; simp [Value.cells]
theorem cellsOf_one {x a as} (R : Rep fid w W M x a) (h : a.cellsOf = some as) : ∀ y ∈ x.cells.toList, y.oneCell' = true := by
  cases a with
  | agg cs =>
    cases R with
    | @agg xs _ h1 h2 hc => simpa [Value.cells] using h2
  | tup => simp [AV.cellsOf] at h
  | dead => simp [AV.cellsOf] at h
  | v y =>
    have := R.v_inv; subst this
    cases x <;> simp only [AV.cellsOf, reduceCtorEq] at h <;> simp [Value.cells, Value.oneCell']
  | ptr => cases R; simp [Value.cells, Value.oneCell']
  | own => cases R with | own hM hn hh hlen => obtain ⟨a, C, rfl, _⟩ := hlen; simp [Value.cells, Value.oneCell']
  | ro nl =>
    cases R with
    | ro us hlen hlf hro hcs =>
      cases nl with
      | true => obtain ⟨rfl, _⟩ := hro.1 rfl; simp [Value.cells, Value.oneCell']
      | false => obtain ⟨a, C, rfl, _⟩ := hro.2 rfl; simp [Value.cells, Value.oneCell']
  | rop => cases R; simp [Value.cells, Value.oneCell']
  | fn => cases R; simp [Value.cells, Value.oneCell']
theorem eq_run {neg t ox oy} {x y : Value} {z : Bool} (hg : (eqGuard (if neg then .neq else .eql) t ox oy x y).run P w = .ok () w)
    (h1 : binOp .eql t x y = (do pure (.bool (← Op.equal t x y)))) (h2 : binOp .neq t x y = (do pure (.bool (!(← Op.equal t x y))))) (h : (Op.equal t x y).run P w = .ok z w) :
    (do eqGuard (if neg then .neq else .eql) t ox oy x y; binOp (if neg then .neq else .eql) t x y : Sem Value).run P w = .ok (.bool (z != neg)) w := by
  simp only [Sem.run_bind, hg, Result.andThen_ok]
  cases neg
  · simp only [Bool.false_eq_true, if_false, h1, Sem.run_bind, h, Result.andThen_ok, Sem.run_pure]
    cases z <;> rfl
  · simp only [if_true, h2, Sem.run_bind, h, Result.andThen_ok, Sem.run_pure]
    cases z <;> rfl
theorem s_eq {t neg ls ox oy x y a b r} (ht : tEq P t ls = true) (R1 : Rep fid w W M x a) (R2 : Rep fid w W M y b) {h h' : Hp} (hp : prim h (.eq neg ls) [a, b] = some (r, h')) :
    h' = h ∧ ∃ z, (do eqGuard (if neg then .neq else .eql) t ox oy x y; binOp (if neg then .neq else .eql) t x y : Sem Value).run P w = .ok z w ∧ Rep fid w W M z r := by
  unfold tEq at ht
  simp only [Bool.and_eq_true, beq_iff_eq] at ht
  obtain ⟨⟨ht1, ht2⟩, ht3⟩ := ht
  cases a <;> first | (simp only [prim, reduceCtorEq] at hp; done) | skip
  cases b <;> first | (simp only [prim, reduceCtorEq] at hp; done) | skip
  simp only [prim] at hp
  obtain ⟨z, hz, he⟩ := Option.map_eq_some_iff.1 hp
  cases he
  cases R1 with
  | @agg xs as k1 k2 kc =>
  cases R2 with
  | @agg ys bs l1 l2 lc =>
  have hlv := cellsEq_reps ⟨k1, kc⟩ ⟨l1, lc⟩ hz
  have run : (Op.equal t (.agg xs.toArray) (.agg ys.toArray)).run P w = .ok z w := leaves_sound 20 t ls ht1 10000 (by omega) true ht3 xs ys z hlv w
  exact ⟨rfl, _, eq_run (by cases neg <;> simp [eqGuard, ht2]) rfl rfl run, .v _⟩
theorem s_eqBool {t neg ox oy x y a b r} (ht : tBool P t = true) (R1 : Rep fid w W M x a) (R2 : Rep fid w W M y b) {h h' : Hp} (hp : prim h (.eqBool neg) [a, b] = some (r, h')) :
    h' = h ∧ ∃ z, (do eqGuard (if neg then .neq else .eql) t ox oy x y; binOp (if neg then .neq else .eql) t x y : Sem Value).run P w = .ok z w ∧ Rep fid w W M z r := by
  unfold tBool at ht
  split at ht <;> first | (cases ht; done) | skip
  rename_i hu
  cases a <;> first | (simp only [prim, reduceCtorEq] at hp; done) | skip
  cases b <;> first | (simp only [prim, reduceCtorEq] at hp; done) | skip
  have := R1.v_inv; subst this
  have := R2.v_inv; subst this
  cases x <;> first | (simp only [prim, reduceCtorEq] at hp; done) | skip
  cases y <;> first | (simp only [prim, reduceCtorEq] at hp; done) | skip
  simp only [prim] at hp
  cases hp
  exact ⟨rfl, _, eq_run (by cases neg <;> simp [eqGuard]) rfl rfl (by simp [Op.equal, Op.maxDepth, run_equalIn_bool _ _ _ _ _ hu]), .v _⟩
def NilIs : NilKind → Bool → Value → Prop
  | .slice, z, x => ∃ ad l C, x = .slice ad l C ∧ ad.isNone = z
  | .ptr, z, x => ∃ ad, x = .pointer ad ∧ ad.isNone = z
  | .func, z, x => (x = .nilFunc ∧ z = true) ∨ (∃ f a b, x = .func f a b ∧ z = false)
theorem isNil_inv {base w0 μ} {h : Hp} (S : Sim fid base w0 w μ h.get) {k x a z} (R : Rep fid w (Wr μ h.get) (info μ h.get) x a) (hz : h.isNil k a = some z) : NilIs k z x := by
  cases a with
  | v y =>
    have := R.v_inv; subst this
    cases k <;> cases x <;> first | (simp only [Hp.isNil, reduceCtorEq] at hz; done) | skip
    · rename_i ad l C
      cases ad <;> first | (simp only [Hp.isNil, reduceCtorEq] at hz; done) | skip
      cases l <;> first | (simp only [Hp.isNil, reduceCtorEq] at hz; done) | skip
      cases C <;> first | (simp only [Hp.isNil, reduceCtorEq] at hz; done) | skip
      simp only [Hp.isNil, Option.some.injEq] at hz
      exact ⟨_, _, _, rfl, hz⟩
    · rename_i ad
      cases ad <;> first | (simp only [Hp.isNil, reduceCtorEq] at hz; done) | skip
      simp only [Hp.isNil, Option.some.injEq] at hz
      exact ⟨_, rfl, hz⟩
    · simp only [Hp.isNil, Option.some.injEq] at hz
      exact .inl ⟨rfl, hz.symm⟩
  | ro nl =>
    cases k <;> simp only [Hp.isNil, reduceCtorEq, Option.some.injEq] at hz
    subst hz
    cases R with
    | ro us hlen hlf hro hcs =>
      cases nl with
      | true => obtain ⟨rfl, _⟩ := hro.1 rfl; exact ⟨_, _, _, rfl, rfl⟩
      | false => obtain ⟨a, C, rfl, _⟩ := hro.2 rfl; exact ⟨_, _, _, rfl, rfl⟩
  | own ℓ n off len esz cap =>
    cases k <;> first | (simp only [Hp.isNil, reduceCtorEq] at hz; done) | skip
    simp only [Hp.isNil] at hz
    cases hb : h.get ℓ with
    | none => simp [hb] at hz
    | some B =>
      simp only [hb] at hz
      split at hz <;> cases hz
      rename_i hk
      have ok := R.own_inv S hb hk
      unfold OwnOK at ok
      split at ok
      · rename_i hv
        obtain ⟨rfl, _⟩ := ok
        exact ⟨_, _, _, rfl, by simpa using hv.symm⟩
      · rename_i hv
        obtain ⟨a2, C2, rfl, _⟩ := ok
        exact ⟨_, _, _, rfl, by simpa using hv⟩
  | ptr ℓ n off =>
    cases k <;> simp only [Hp.isNil, reduceCtorEq, Option.some.injEq] at hz
    subst hz
    cases R
    exact ⟨_, rfl, rfl⟩
  | rop cs =>
    cases k <;> simp only [Hp.isNil, reduceCtorEq, Option.some.injEq] at hz
    subst hz
    cases R
    exact ⟨_, rfl, rfl⟩
  | fn =>
    cases k <;> simp only [Hp.isNil, reduceCtorEq, Option.some.injEq] at hz
    subst hz; cases R; exact .inr ⟨_, _, _, rfl, rfl⟩
  | _ => cases k <;> simp [Hp.isNil] at hz
theorem nilV_inv {k x} {a : AV} (R : Rep fid w W M x a) (h : isNilV k a = true) : NilIs k true x ∧ (k = .slice → x = .slice none 0 0) ∧ (k = .ptr → x = .pointer none) ∧ (k = .func → x = .nilFunc) := by
  unfold isNilV at h
  split at h
  · have := R.v_inv; subst this; exact ⟨⟨_, _, _, rfl, rfl⟩, by simp⟩
  · have := R.v_inv; subst this; exact ⟨⟨_, rfl, rfl⟩, by simp⟩
  · have := R.v_inv; subst this; exact ⟨.inl ⟨rfl, rfl⟩, by simp⟩
  · cases h
theorem equal_nil {t k x z n} (ht : tNil P t k = true) (hx : NilIs k z x) (h1 : k = .slice → n = .slice none 0 0) (h2 : k = .ptr → n = .pointer none) (h3 : k = .func → n = .nilFunc) :
    (Op.equal t x n).run P w = .ok z w ∧ (Op.equal t n x).run P w = .ok z w := by
  suffices key : ∀ d, (Op.equalIn (d + 1) t x n).run P w = .ok z w ∧ (Op.equalIn (d + 1) t n x).run P w = .ok z w from key 9999
  intro d
  unfold tNil at ht
  split at ht <;> first | (cases ht; done) | skip
  · rename_i e hu
    obtain ⟨ad, l, C, rfl, rfl⟩ := hx
    rw [h1 rfl]
    cases ad <;> constructor <;> simp [Op.equalIn, underlying, hu]
  · rename_i e hu
    obtain ⟨ad, rfl, rfl⟩ := hx
    rw [h2 rfl]
    cases ad <;> constructor <;> simp [Op.equalIn, underlying, hu]
  · rename_i hu
    rw [h3 rfl]
    rcases hx with ⟨rfl, rfl⟩ | ⟨f, a, b, rfl, rfl⟩ <;> constructor <;> simp [Op.equalIn, underlying, hu]
theorem nil_binOp {k z x n} (t : TypeId) (hx : NilIs k z x) (h1 : k = .slice → n = .slice none 0 0) (h2 : k = .ptr → n = .pointer none) (h3 : k = .func → n = .nilFunc) (ox oy : Operand) (neg : Bool) :
    binOp .eql t x n = (do pure (.bool (← Op.equal t x n))) ∧ binOp .neq t x n = (do pure (.bool (!(← Op.equal t x n)))) ∧
    binOp .eql t n x = (do pure (.bool (← Op.equal t n x))) ∧ binOp .neq t n x = (do pure (.bool (!(← Op.equal t n x)))) ∧
    (eqGuard (if neg then .neq else .eql) t ox oy x n).run P w = .ok () w ∧ (eqGuard (if neg then .neq else .eql) t ox oy n x).run P w = .ok () w := by
  cases k
  · obtain ⟨ad, l, C, rfl, rfl⟩ := hx
    rw [h1 rfl]
    exact ⟨rfl, rfl, rfl, rfl, by cases neg <;> simp [eqGuard], by cases neg <;> simp [eqGuard]⟩
  · obtain ⟨ad, rfl, rfl⟩ := hx
    rw [h2 rfl]
    exact ⟨rfl, rfl, rfl, rfl, by cases neg <;> simp [eqGuard], by cases neg <;> simp [eqGuard]⟩
  · rw [h3 rfl]
    rcases hx with ⟨rfl, rfl⟩ | ⟨f, a, b, rfl, rfl⟩
    · exact ⟨rfl, rfl, rfl, rfl, by cases neg <;> simp [eqGuard], by cases neg <;> simp [eqGuard]⟩
    · exact ⟨rfl, rfl, rfl, rfl, by cases neg <;> simp [eqGuard], by cases neg <;> simp [eqGuard]⟩
theorem s_eqNil {base w0 μ} {h h' : Hp} (S : Sim fid base w0 w μ h.get) {t neg k ox oy x y a b r} (ht : tNil P t k = true)
    (R1 : Rep fid w (Wr μ h.get) (info μ h.get) x a) (R2 : Rep fid w (Wr μ h.get) (info μ h.get) y b) (hp : prim h (.eqNil neg k) [a, b] = some (r, h')) :
    h' = h ∧ ∃ z, (do eqGuard (if neg then .neq else .eql) t ox oy x y; binOp (if neg then .neq else .eql) t x y : Sem Value).run P w = .ok z w ∧
      Rep fid w (Wr μ h.get) (info μ h.get) z r := by
  simp only [prim] at hp
  split at hp
  · rename_i hb
    obtain ⟨z, hz, he⟩ := Option.map_eq_some_iff.1 hp
    cases he
    have hx := isNil_inv S R1 hz
    obtain ⟨_, n1, n2, n3⟩ := nilV_inv R2 hb
    obtain ⟨e1, e2, _, _, g1, _⟩ := nil_binOp (P := P) (w := w) t hx n1 n2 n3 ox oy neg
    exact ⟨rfl, _, eq_run g1 e1 e2 (equal_nil ht hx n1 n2 n3).1, .v _⟩
  · split at hp <;> first | (cases hp; done) | skip
    rename_i hb
    obtain ⟨z, hz, he⟩ := Option.map_eq_some_iff.1 hp
    cases he
    have hx := isNil_inv S R2 hz
    obtain ⟨_, n1, n2, n3⟩ := nilV_inv R1 hb
    obtain ⟨_, _, e1, e2, _, g1⟩ := nil_binOp (P := P) (w := w) t hx n1 n2 n3 ox oy neg
    exact ⟨rfl, _, eq_run g1 e1 e2 (equal_nil ht hx n1 n2 n3).2, .v _⟩
theorem tZero_inv {t zs} (h : tZero P t zs = true) : ∃ i z, P.info? t = some i ∧ i.zero = some z ∧ z.cells.toList = zs ∧ ∀ x ∈ zs, x.oneCell' = true := by
  unfold tZero at h
  split at h <;> first | (cases h; done) | skip
  rename_i i hi
  split at h <;> first | (cases h; done) | skip
  rename_i z hz
  obtain ⟨h1, h2⟩ := atomsEq_sound h
  exact ⟨i, z, hi, hz, h1, by rw [← h1]; exact h2⟩
theorem zero_run {t zs} (h : tZero P t zs = true) : ∃ z, z.cells.toList = zs ∧ (∀ x ∈ zs, x.oneCell' = true) ∧ ∀ w : World, (zeroValue t).run P w = .ok z w := by
  obtain ⟨i, z, hi, hz, h1, h2⟩ := tZero_inv h
  exact ⟨z, h1, h2, fun w => by simp [zeroValue, typeInfo, hi, hz]⟩
theorem Reps.ofV (zs : List Value) : Reps fid w W M zs (zs.map .v) := by
  refine ⟨by simp, fun i x a hx ha => ?_⟩
  rw [List.getElem?_map, hx] at ha
  cases ha; exact .v x
theorem foldl_lay : ∀ (vs : List Value) (k off : Nat) (c : Array Value), off + k + vs.length ≤ c.size →
    ((vs.zipIdx k).foldl (fun cs (p : Value × Nat) => cs.setIfInBounds (off + p.2) p.1) c) = layC c (off + k) vs
  | [], k, off, c, _ => by simp [layC_nil]
  | v :: vs, k, off, c, h => by
    simp only [List.length_cons] at h
    rw [List.zipIdx_cons, List.foldl_cons, foldl_lay vs (k + 1) off _ (by simp; omega)]
    rw [show off + (k + 1) = off + k + 1 by omega, layC_cons (by omega)]
theorem layC_reps {c : Array Value} {cs : List AV} {vs : List Value} {as : List AV} {off : Nat} (R : Reps fid w W M c.toList cs) (R' : Reps fid w W M vs as) (h : off + as.length ≤ cs.length) :
    Reps fid w W M (layC c off vs).toList (lay cs off as) := by
  have e1 : (layC c off vs).toList = c.toList.take off ++ vs ++ c.toList.drop (off + vs.length) := by simp [layC]
  rw [e1, lay, R'.1]
  exact ((R.take off).append R').append (R.drop _)
theorem fills_sound : ∀ {places : List (Nat × Nat)} {cells : List AV} {as : List AV} {r : List AV} {c : Array Value} {parts : List (Nat × Value)} (place : Nat → Option (Nat × Nat)),
    Reps fid w W M c.toList cells → Reps fid w W M (parts.map (·.2)) as → (∀ (i : Nat) p, parts[i]? = some p → place p.1 = places[i]?) → places.length = parts.length → fills places cells as = some r →
    (∀ x ∈ c, x.oneCell' = true) → ∃ c', Instr.fill place c parts = some c' ∧ Reps fid w W M c'.toList r ∧ ∀ x ∈ c', x.oneCell' = true
  | places, cells, [], r, c, parts, place, R, R', hpl, hlen, h, h1 => by
    have := R'.nil_inv
    simp only [List.map_eq_nil_iff] at this
    subst this
    cases places with
    | nil => simp only [fills, Option.some.injEq] at h; subst h; exact ⟨c, rfl, R, h1⟩
    | cons => simp [fills] at h
  | places, cells, a :: as, r, c, parts, place, R, R', hpl, hlen, h, h1 => by
    cases places with
    | nil => simp [fills] at h
    | cons q ps =>
      obtain ⟨off, sz⟩ := q
      cases parts with
      | nil => simp at hlen
      | cons p parts =>
        obtain ⟨i, v⟩ := p
        simp only [List.map_cons] at R'
        simp only [fills] at h
        split at h <;> first | (cases h; done) | skip
        rename_i cs hcs
        split at h <;> first | (cases h; done) | skip
        rename_i hc
        obtain ⟨hc1, hc2⟩ := hc
        obtain ⟨xs, agg, hv, RR, _, _, hcells⟩ := cellsOf_agg R'.head hcs
        have hone := cellsOf_one R'.head hcs
        have hp0 : place i = some (off, sz) := by have := hpl 0 (i, v) rfl; simpa using this
        have hsz : c.size = cells.length := by rw [← R.1]; simp
        have hvs : v.cells.size = sz := by rw [← hc1, ← RR.1, ← hcells]; simp
        have hlay : v.cells.zipIdx.foldl (fun cs (p : Value × Nat) => cs.setIfInBounds (off + p.2) p.1) c = layC c off xs := by
          have := foldl_lay v.cells.toList 0 off c (by simp; omega)
          rw [← Array.foldl_toList, Array.toList_zipIdx, this, hcells]; rfl
        have hpl' : ∀ (j : Nat) p, parts[j]? = some p → place p.1 = ps[j]? := fun j p hj => by have := hpl (j + 1) p (by simpa using hj); simpa using this
        obtain ⟨c', hf, R2, h2⟩ := fills_sound (c := layC c off xs) (parts := parts) place (layC_reps R RR (by omega)) R'.tail hpl' (by simpa using hlen) h (fun x hx => by
          rcases layC_mem hx with hx | hx
          · exact h1 x hx
          · exact hone x (by rw [hcells]; exact hx))
        refine ⟨c', ?_, R2, h2⟩
        simp only [Instr.fill, hp0]
        rw [if_neg (by simp [hvs]; omega)]
        rw [← hf]
        congr 1
end
end Go.AM
namespace Go.AM
open Go.RowKit
variable {fid : String → Option FuncId} {P : Program}
section
variable {w : World}
theorem freeze_sound {base w0 μ} {h h' : Hp} (S : Sim fid base w0 w μ h.get) {x a a'} (R : Rep fid w (Wr μ h.get) (info μ h.get) x a) (hf : h.freeze a = some (a', h')) :
    Sim fid base w0 w μ h'.get ∧ Pres w (Wr μ h.get) (info μ h.get) w (Wr μ h'.get) (info μ h'.get) ∧ Rep fid w (Wr μ h'.get) (info μ h'.get) x a' := by
  cases a with
  | own ℓ n off len esz cap =>
    simp only [Hp.freeze] at hf
    cases hb : h.get ℓ with
    | none => simp [hb] at hf
    | some B =>
      simp only [hb] at hf
      split at hf <;> cases hf
      rename_i hk
      obtain ⟨hk, hdata⟩ := hk
      obtain ⟨S', p⟩ := sim_freeze S hb
      refine ⟨S', p, ?_⟩
      have ok := R.own_inv S hb hk
      have hlf := (S.ok.blk ℓ B hb).data hdata
      have hg := put_get hb { B with wr := false }
      have hnw : ∀ b, B.virt = false → (μ ℓ).1 = b → ¬ Wr μ (h.put ℓ (some { B with wr := false })).get b := by
        intro b hv hb' hw
        obtain ⟨ℓ', B', h1, h2, h3, h4⟩ := hw
        rw [hg] at h1
        by_cases e : ℓ' = ℓ
        · subst e; simp only [upd, if_true] at h1; cases h1; cases h2
        · simp only [upd, if_neg e] at h1
          exact e (S.ok.inj ℓ' ℓ B' B h1 hb h3 hv (by rw [h4, hb']))
      unfold OwnOK at ok
      split at ok
      · rename_i hv
        simp only at hv
        obtain ⟨rfl, rfl, rfl⟩ := ok
        refine .ro (fun _ => undef) (by simp) (by simp [AV.lf.lfs]) ⟨fun _ => ⟨rfl, rfl⟩, fun h => by rw [hv] at h; cases h⟩ (fun i a ha => by simp at ha)
      · rename_i hv
        simp only [Bool.not_eq_true] at hv
        obtain ⟨a2, C2, rfl, g2, g3, g4, g5, g6, g7⟩ := ok
        simp only at g3 g4 g5 g6 g7
        obtain ⟨us, hl, hcell, h1, RR⟩ := cells_at S hb hv g7
        have hlen : ((B.cells.drop off).take (len * esz)).length = len * esz := by rw [← RR.1, hl]
        refine .ro (fun i => us.getD i undef) hlen (lfs_take (lfs_drop hlf _) _) ⟨fun h => (by rw [hv] at h; cases h), fun _ => ⟨a2, C2, rfl, g2, ?_⟩⟩ (fun i a ha => ?_)
        · rcases g3 with g3 | rfl
          · left
            have : len = 0 := by omega
            subst this
            rw [hlen]; simp
          · refine .inr ⟨rfl, hnw _ hv rfl, fun i hi => ?_⟩
            rw [hlen] at hi
            have hu : us[i]? = some (us.getD i undef) := by rw [List.getD_eq_getElem?_getD, List.getElem?_eq_getElem (by omega)]; rfl
            exact ⟨hcell i _ hu, h1 _ (List.mem_of_getElem? hu)⟩
        · have hi : i < us.length := by
            rw [RR.1]
            by_cases hi : i < ((B.cells.drop off).take (len * esz)).length
            · exact hi
            · rw [List.getElem?_eq_none (by omega)] at ha; cases ha
          have hu : us[i]? = some (us.getD i undef) := by rw [List.getD_eq_getElem?_getD, List.getElem?_eq_getElem (by omega)]; rfl
          exact (RR.2 i _ a hu ha).pres p
  | _ => simp only [Hp.freeze, Option.some.injEq, Prod.mk.injEq] at hf; obtain ⟨rfl, rfl⟩ := hf; exact ⟨S, .refl _ _ _, R⟩
theorem freezes_sound {base w0 μ} : ∀ {as as' : List AV} {xs : List Value} {h h' : Hp}, Sim fid base w0 w μ h.get → Reps fid w (Wr μ h.get) (info μ h.get) xs as → h.freezes as = some (as', h') →
    Sim fid base w0 w μ h'.get ∧ Pres w (Wr μ h.get) (info μ h.get) w (Wr μ h'.get) (info μ h'.get) ∧ Reps fid w (Wr μ h'.get) (info μ h'.get) xs as'
  | [], as', xs, h, h', S, R, hf => by
    simp only [Hp.freezes, Option.some.injEq, Prod.mk.injEq] at hf
    obtain ⟨rfl, rfl⟩ := hf
    exact ⟨S, .refl _ _ _, R⟩
  | a :: as, as', xs, h, h', S, R, hf => by
    obtain ⟨v, vs, rfl, r, rs⟩ := R.cons_inv
    simp only [Hp.freezes] at hf
    obtain ⟨⟨a1, h1⟩, hf1, hf2⟩ := Option.bind_eq_some_iff.1 hf
    obtain ⟨⟨as2, h2⟩, hf3, he⟩ := Option.map_eq_some_iff.1 hf2
    cases he
    obtain ⟨S1, p1, r1⟩ := freeze_sound S r hf1
    obtain ⟨S2, p2, r2⟩ := freezes_sound S1 (rs.pres p1) hf3
    exact ⟨S2, p1.trans p2, Reps.cons (r1.pres p2) r2⟩
theorem mayFreeze_sound {base w0 μ} {frz : Bool} {as as' : List AV} {xs : List Value} {h h' : Hp} (S : Sim fid base w0 w μ h.get) (R : Reps fid w (Wr μ h.get) (info μ h.get) xs as)
    (hf : h.mayFreeze frz as = some (as', h')) :
    Sim fid base w0 w μ h'.get ∧ Pres w (Wr μ h.get) (info μ h.get) w (Wr μ h'.get) (info μ h'.get) ∧ Reps fid w (Wr μ h'.get) (info μ h'.get) xs as' := by
  unfold Hp.mayFreeze at hf
  split at hf
  · exact freezes_sound S R hf
  · cases hf; exact ⟨S, .refl _ _ _, R⟩
theorem row_new {base w0 μ} {h h' : Hp} (S : Sim fid base w0 w μ h.get) {site : Nat} {cs : List AV} (hn : h.new site (newBlk cs) = some h') (e : TypeId) (c : Array Value)
    (R : Reps fid w (Wr μ h.get) (info μ h.get) c.toList cs) (h1 : ∀ x ∈ c, x.oneCell' = true) :
    ∃ μ', Sim fid base w0 { w with heap := w.heap.push (.cells c e) } μ' h'.get ∧
      Pres w (Wr μ h.get) (info μ h.get) { w with heap := w.heap.push (.cells c e) } (Wr μ' h'.get) (info μ' h'.get) ∧
      info μ' h'.get (.l site) = some ⟨w.heap.size, cs.length, false, c.size⟩ := by
  have hsz : cs.length = c.size := by rw [← R.1]; simp
  obtain ⟨S', p, hi⟩ := sim_new S hn { w with heap := w.heap.push (.cells c e) } c e 0 0 rfl rfl rfl rfl (.inl rfl) rfl (by simp [newBlk, hsz]) (fun _ => by simp [newBlk, hsz]) h1
    (fun h => h) (fun i a ha => by
      have hi : i < c.toList.length := by
        rw [R.1]
        by_cases hi : i < cs.length
        · exact hi
        · simp only [newBlk] at ha; rw [List.getElem?_eq_none (by omega)] at ha; cases ha
      refine ⟨c.toList[i], by simp at hi; simp [hi], R.2 i _ a (List.getElem?_eq_getElem hi) ha⟩)
  exact ⟨_, S', p, by simpa [newBlk] using hi⟩
theorem s_box {base w0 μ} {h h' : Hp} (S : Sim fid base w0 w μ h.get) {t site x a r} (R : Rep fid w (Wr μ h.get) (info μ h.get) x a) (hp : prim h (.box site) [a] = some (r, h')) :
    ∃ y w', (Instr.box t x).run P w = .ok y w' ∧ Post fid base w0 w μ h.get w' h'.get y r := by
  simp only [prim] at hp
  obtain ⟨cs, hcs, hp1⟩ := Option.bind_eq_some_iff.1 hp
  obtain ⟨h1, hn, he⟩ := Option.map_eq_some_iff.1 hp1
  cases he
  obtain ⟨xs, agg, hv, RR, _, _, hcells⟩ := cellsOf_agg R hcs
  have hone := cellsOf_one R hcs
  obtain ⟨μ', S', p, hi⟩ := row_new S hn t x.cells (by rw [hcells]; exact RR) (fun y hy => hone y (Array.mem_toList_iff.2 hy))
  refine ⟨_, _, by simp [Instr.box, newVar, newRow], μ', S', p, .ptr hi (Nat.le_refl _) fun _ => ⟨rfl, rfl⟩⟩
theorem s_nilv {base w0 μ} {h h' : Hp} (S : Sim fid base w0 w μ h.get) {site esz x a r} (R : Rep fid w (Wr μ h.get) (info μ h.get) x a) (hp : prim h (.nilv site esz) [a] = some (r, h')) :
    Post fid base w0 w μ h.get w h'.get x r := by
  cases a <;> first | (simp only [prim, reduceCtorEq] at hp; done) | skip
  have := R.v_inv; subst this
  cases x <;> first | (simp only [prim, reduceCtorEq] at hp; done) | skip
  rename_i ad n c
  cases ad <;> first | (simp only [prim, reduceCtorEq] at hp; done) | skip
  cases n <;> first | (simp only [prim, reduceCtorEq] at hp; done) | skip
  cases c <;> first | (simp only [prim, reduceCtorEq] at hp; done) | skip
  simp only [prim] at hp
  obtain ⟨h1, hn, he⟩ := Option.map_eq_some_iff.1 hp
  cases he
  obtain ⟨S', p, hi⟩ := sim_virt S hn
  exact ⟨_, S', p, .own hi (Nat.le_refl _) (fun _ => by unfold OwnOK; rw [if_pos rfl]; exact ⟨rfl, rfl, rfl⟩) ⟨none, 0, rfl, Nat.le_refl _, fun _ => ⟨rfl, rfl⟩, fun c hc => by cases hc⟩⟩
theorem kids_sound {base w0 site} : ∀ {kids : List (Nat × Nat × Nat)} {h h' : Hp} {μ : Lab → Nat × Nat} {cells cells' : List AV} {xs : List Value}, Sim fid base w0 w μ h.get →
    Reps fid w (Wr μ h.get) (info μ h.get) xs cells → kidsIn h site cells kids = some (cells', h') →
    ∃ μ', Sim fid base w0 w μ' h'.get ∧ Pres w (Wr μ h.get) (info μ h.get) w (Wr μ' h'.get) (info μ' h'.get) ∧ Reps fid w (Wr μ' h'.get) (info μ' h'.get) xs cells' ∧
      ∀ ℓ B, h.get ℓ = some B → h'.get ℓ = some B
  | [], h, h', μ, cells, cells', xs, S, R, hk => by
    simp only [kidsIn, Option.some.injEq, Prod.mk.injEq] at hk
    obtain ⟨rfl, rfl⟩ := hk
    exact ⟨μ, S, .refl _ _ _, R, fun _ _ h => h⟩
  | (j, s, esz) :: ks, h, h', μ, cells, cells', xs, S, R, hk => by
    simp only [kidsIn] at hk
    split at hk <;> first | (cases hk; done) | skip
    rename_i hj
    obtain ⟨h1, hn, hk1⟩ := Option.bind_eq_some_iff.1 hk
    obtain ⟨S1, p1, hi⟩ := sim_virt S hn
    have R1 : Reps fid w (Wr (upd μ (.l s) (w.heap.size, 0)) h1.get) (info (upd μ (.l s) (w.heap.size, 0)) h1.get) xs (cells.set j (.own (.l s) 0 0 0 esz none)) := by
      have hlt : j < xs.length := by
        rw [R.1]
        by_cases hl : j < cells.length
        · exact hl
        · rw [List.getElem?_eq_none (by omega)] at hj; cases hj
      have hx := R.2 j xs[j] _ (List.getElem?_eq_getElem hlt) hj
      have hx' := hx.v_inv
      have := (R.pres p1).set j (x := xs[j]) (a := .own (.l s) 0 0 0 esz none) (.own hi (Nat.le_refl _) (fun _ => by
        unfold OwnOK; rw [if_pos rfl]; exact ⟨hx', rfl, rfl⟩) ⟨none, 0, hx', Nat.le_refl _, fun _ => ⟨rfl, rfl⟩, fun c hc => by cases hc⟩)
      rwa [List.set_getElem_self] at this
    obtain ⟨μ', S', p', R', hold⟩ := kids_sound S1 R1 hk1
    refine ⟨μ', S', p1.trans p', R', fun ℓ B hB => hold ℓ B ?_⟩
    obtain ⟨hg, hnone⟩ := new_get hn
    rw [hg]
    simp only [upd]
    split
    · rename_i e; subst e; rw [hnone] at hB; cases hB
    · exact hB
theorem s_alloc {base w0 μ} {h h' : Hp} (S : Sim fid base w0 w μ h.get) {t site zero kids r} (ht : tZero P t zero = true) (hp : prim h (.alloc site zero kids) [] = some (r, h')) :
    ∃ y w', (Instr.alloc t true (.tuple #[])).run P w = .ok y w' ∧ Post fid base w0 w μ h.get w' h'.get y r := by
  obtain ⟨z, hz, hone, hrun⟩ := zero_run ht
  simp only [prim] at hp
  obtain ⟨h1, hn, hp1⟩ := Option.bind_eq_some_iff.1 hp
  obtain ⟨⟨cells, h2⟩, hk, he⟩ := Option.map_eq_some_iff.1 hp1
  cases he
  have hone' : ∀ x ∈ z.cells, x.oneCell' = true := fun x hx => hone x (by rw [← hz]; exact Array.mem_toList_iff.2 hx)
  obtain ⟨μ1, S1, p1, hi1⟩ := row_new S hn t z.cells (by rw [hz]; exact .ofV zero) hone'
  obtain ⟨μ2, S2, p2, R2, hold⟩ := kids_sound S1 (xs := z.cells.toList) (by rw [hz]; exact .ofV zero) hk
  have hat : h2.get (.l site) = some (newBlk (zero.map .v)) := hold _ _ (by rw [(new_get hn).1]; simp [upd])
  obtain ⟨I2, hI2, e2⟩ := p2.lab _ _ hi1
  have hI2' : I2 = ⟨w.heap.size, (zero.map AV.v).length, false, z.cells.size⟩ := by
    rcases e2 with e2 | e2
    · exact e2
    · simp only [info, hat, Option.map_some, Option.some.injEq] at hI2
      rw [← hI2] at e2
      simp [newBlk] at e2
  have hμ : μ2 (.l site) = (w.heap.size, z.cells.size) := by
    simp only [info, hat, Option.map_some, Option.some.injEq] at hI2
    rw [hI2'] at hI2
    simp only [LInfo.mk.injEq] at hI2
    exact Prod.ext hI2.1 hI2.2.2.2
  have hlen : cells.length = (zero.map AV.v).length := by rw [← R2.1, hz]; simp
  have hzs : zero.length = z.cells.size := by rw [← hz]; simp
  obtain ⟨S3, p3, hi3⟩ := sim_put S2 (B' := newBlk cells) hat rfl { w with heap := w.heap.push (.cells z.cells t) } w.heap.size z.cells t 0 0 (by simp) (fun k _ _ => rfl) (Nat.le_refl _)
    rfl rfl rfl (.inl ⟨rfl, by rw [hμ]⟩) (.inl rfl) rfl (by simp [newBlk, hlen, hzs]) (fun _ => by simp [newBlk, hlen, hzs]) (.inl ⟨by simp [newBlk, hlen], rfl, hμ⟩) hone' (fun h => h)
    (fun i a ha => by
      have hi : i < z.cells.toList.length := by
        rw [R2.1]
        by_cases hi : i < cells.length
        · exact hi
        · simp only [newBlk] at ha; rw [List.getElem?_eq_none (by omega)] at ha; cases ha
      exact ⟨z.cells.toList[i], by simp at hi; simp [hi], R2.2 i _ a (List.getElem?_eq_getElem hi) ha⟩)
  refine ⟨_, _, by simp [Instr.alloc, hrun, newVar, newRow], _, S3, (p1.trans p2).trans p3, .ptr hi3 (by simp [newBlk]) fun _ => ⟨rfl, rfl⟩⟩
theorem s_boxK {base w0 μ} {h h' : Hp} (S : Sim fid base w0 w μ h.get) {t site kids x a r} (R : Rep fid w (Wr μ h.get) (info μ h.get) x a) (hp : prim h (.boxK site kids) [a] = some (r, h')) :
    ∃ y w', (Instr.box t x).run P w = .ok y w' ∧ Post fid base w0 w μ h.get w' h'.get y r := by
  simp only [prim] at hp
  obtain ⟨cs, hcs, hp0⟩ := Option.bind_eq_some_iff.1 hp
  obtain ⟨h1, hn, hp1⟩ := Option.bind_eq_some_iff.1 hp0
  obtain ⟨⟨cells, h2⟩, hk, he⟩ := Option.map_eq_some_iff.1 hp1
  cases he
  obtain ⟨xs, agg, hv, RR, _, _, hcells⟩ := cellsOf_agg R hcs
  have hone := cellsOf_one R hcs
  have hone' : ∀ y ∈ x.cells, y.oneCell' = true := fun y hy => hone y (Array.mem_toList_iff.2 hy)
  have RC : Reps fid w (Wr μ h.get) (info μ h.get) x.cells.toList cs := by rw [hcells]; exact RR
  obtain ⟨μ1, S1, p1, hi1⟩ := row_new S hn t x.cells RC (fun y hy => hone y (Array.mem_toList_iff.2 hy))
  obtain ⟨μ2, S2, p2, R2, hold⟩ := kids_sound S1 (xs := x.cells.toList) (RC.pres p1) hk
  have hat : h2.get (.l site) = some (newBlk cs) := hold _ _ (by rw [(new_get hn).1]; simp [upd])
  obtain ⟨I2, hI2, e2⟩ := p2.lab _ _ hi1
  have hI2' : I2 = ⟨w.heap.size, cs.length, false, x.cells.size⟩ := by
    rcases e2 with e2 | e2
    · exact e2
    · simp only [info, hat, Option.map_some, Option.some.injEq] at hI2
      rw [← hI2] at e2
      simp [newBlk] at e2
  have hμ : μ2 (.l site) = (w.heap.size, x.cells.size) := by
    simp only [info, hat, Option.map_some, Option.some.injEq] at hI2
    rw [hI2'] at hI2
    simp only [LInfo.mk.injEq] at hI2
    exact Prod.ext hI2.1 hI2.2.2.2
  have hzs : cs.length = x.cells.size := by rw [← RC.1]; simp
  have hlen : cells.length = cs.length := by rw [← R2.1, ← RC.1]
  obtain ⟨S3, p3, hi3⟩ := sim_put S2 (B' := newBlk cells) hat rfl { w with heap := w.heap.push (.cells x.cells t) } w.heap.size x.cells t 0 0 (by simp) (fun k _ _ => rfl) (Nat.le_refl _)
    rfl rfl rfl (.inl ⟨rfl, by rw [hμ]⟩) (.inl rfl) rfl (by simp [newBlk, hlen, hzs]) (fun _ => by simp [newBlk, hlen, hzs]) (.inl ⟨by simp [newBlk, hlen], rfl, hμ⟩) hone' (fun h => h)
    (fun i a ha => by
      have hi : i < x.cells.toList.length := by
        rw [R2.1]
        by_cases hi : i < cells.length
        · exact hi
        · simp only [newBlk] at ha; rw [List.getElem?_eq_none (by omega)] at ha; cases ha
      exact ⟨x.cells.toList[i], by simp at hi; simp [hi], R2.2 i _ a (List.getElem?_eq_getElem hi) ha⟩)
  refine ⟨_, _, by simp [Instr.box, newVar, newRow], _, S3, (p1.trans p2).trans p3, .ptr hi3 (by simp [newBlk]) fun _ => ⟨rfl, rfl⟩⟩
theorem cyc_get (zs : List Value) (hz : 0 < zs.length) : ∀ (k i : Nat), (List.replicate k zs).flatten[i]? = if i < k * zs.length then zs[i % zs.length]? else none
  | 0, i => by simp
  | k + 1, i => by
    rw [List.replicate_succ, List.flatten_cons, Nat.add_mul, Nat.one_mul]
    by_cases h : i < zs.length
    · rw [List.getElem?_append_left h, if_pos (by omega), Nat.mod_eq_of_lt h]
    · rw [List.getElem?_append_right (by omega), cyc_get zs hz k]
      by_cases h2 : i - zs.length < k * zs.length
      · have e : i % zs.length = (i - zs.length) % zs.length := Nat.mod_eq_sub_mod (by omega)
        rw [if_pos h2, if_pos (by omega), e]
      · rw [if_neg h2, if_neg (by omega)]
theorem cyc_eq (z : Array Value) (k n : Nat) (hn : n = k * z.size) (hz : 0 < z.size) :
    ((Array.range n).map (fun i => z[i % z.size]!)).toList = (List.replicate k z.toList).flatten := by
  apply List.ext_getElem?
  intro i
  rw [cyc_get _ (by simpa using hz)]
  simp only [Array.toList_map, Array.toList_range, List.getElem?_map, Array.length_toList]
  by_cases h : i < n
  · rw [List.getElem?_range h, if_pos (by rw [← hn]; exact h)]
    have : i % z.size < z.size := Nat.mod_lt _ hz
    simp [this]
  · rw [List.getElem?_eq_none (by simpa using h), if_neg (by rw [← hn]; exact h)]
    rfl
theorem flat_reps {w W M} {zs : List Value} (k : Nat) : Reps fid w W M (List.replicate k zs).flatten (List.replicate k (zs.map AV.v)).flatten := by
  induction k with
  | zero => simp; exact .nil
  | succ k ih => rw [List.replicate_succ, List.replicate_succ, List.flatten_cons, List.flatten_cons]; exact (Reps.ofV zs).append ih
theorem mem_flat {zs : List Value} {k : Nat} {x : Value} (h : x ∈ (List.replicate k zs).flatten) : x ∈ zs := by
  rw [List.mem_flatten] at h
  obtain ⟨l, hl, hx⟩ := h
  rw [(List.mem_replicate.1 hl).2] at hx
  exact hx
theorem wrap_small {n : Nat} (h : n ≤ room) : IntKind.i64.wrap (n : Int) = n := by
  unfold room at h
  simp [IntKind.wrap, IntKind.bits, IntKind.signed]
  omega
theorem tBytes_run {t n} (h : tBytes P t n = true) : ∃ i, P.info? t = some i ∧ i.bytes = n := by
  unfold tBytes at h
  split at h
  · rename_i i hi; exact ⟨i, hi, by simpa using h⟩
  · cases h
theorem s_makeSlice {base w0 μ} {h h' : Hp} (S : Sim fid base w0 w μ h.get) {t site esz bytes zero x y a b r}
    (ht : ∃ e, P.underlying t = some (.slice e) ∧ tSize P e esz = true ∧ tBytes P e bytes = true ∧ tZero P e zero = true) (hesz : 0 < esz)
    (R1 : Rep fid w (Wr μ h.get) (info μ h.get) x a) (R2 : Rep fid w (Wr μ h.get) (info μ h.get) y b) (hp : prim h (.makeSlice site esz bytes zero) [a, b] = some (r, h')) :
    ∃ z w', (Instr.makeSlice t x y).run P w = .ok z w' ∧ Post fid base w0 w μ h.get w' h'.get z r := by
  obtain ⟨e, hu, hs, hb, hz0⟩ := ht
  obtain ⟨z, hz, hone, hrun⟩ := zero_run hz0
  simp only [prim] at hp
  obtain ⟨len, hl, hp1⟩ := Option.bind_eq_some_iff.1 hp
  obtain ⟨cap, hc, hp2⟩ := Option.bind_eq_some_iff.1 hp1
  split at hp2 <;> first | (cases hp2; done) | skip
  rename_i hcond
  obtain ⟨hlc, hcr, hcb, hzl⟩ := hcond
  obtain ⟨h1, hn, he⟩ := Option.map_eq_some_iff.1 hp2
  cases he
  obtain ⟨k1, rfl⟩ := natOf_inv hl
  obtain ⟨k2, rfl⟩ := natOf_inv hc
  have := R1.v_inv; subst this
  have := R2.v_inv; subst this
  obtain ⟨i, hi, hib⟩ := tBytes_run hb
  have hzsz : z.cells.size = esz := by rw [← hzl, ← hz]; simp
  have hw1 := wrap_small (n := len) (by omega)
  have hw2 := wrap_small hcr
  have hcells : ((Array.range (cap * esz)).map (fun i => z.cells[i % z.cells.size]!)).toList = (List.replicate cap zero).flatten := by
    rw [cyc_eq z.cells cap (cap * esz) (by rw [hzsz]) (by omega), hz]
  obtain ⟨μ', S', p, hi'⟩ := row_new S hn e ((Array.range (cap * esz)).map (fun i => z.cells[i % z.cells.size]!)) (by rw [hcells]; exact flat_reps cap)
    (fun x hx => hone x (mem_flat (by rw [← hcells]; exact Array.mem_toList_iff.2 hx)))
  have hlenF : ((List.replicate cap (zero.map AV.v)).flatten).length = cap * esz := by simp [hzl]
  have hroom : ¬ ((bytes : Int) * (cap : Int) > 2 ^ 48) := by
    have h1 : bytes * cap ≤ room := by rw [Nat.mul_comm]; exact hcb
    unfold room at h1
    have h3 : ((bytes * cap : Nat) : Int) = (bytes : Int) * (cap : Int) := Int.natCast_mul _ _
    rw [← h3]
    omega
  refine ⟨.slice (some ⟨w.heap.size, 0, none⟩) len cap, _, ?_, μ', S', p, .own (I := ⟨w.heap.size, cap * esz, false, cap * esz⟩) ?_ (Nat.le_refl _) (fun _ => ?_) ⟨_, _, rfl, hlc, fun h => (by cases h), fun c hc => (by cases hc; rfl)⟩⟩
  · have c1 : ¬ ((cap : Int) < 0) := by omega
    have c2 : ¬ ((len : Int) < 0) := by omega
    have c3 : ¬ ((len : Int) > (cap : Int)) := by omega
    simp only [Instr.makeSlice, Sem.run_bind, run_underlying hu, Result.andThen_ok, asInt, asIntOf, Sem.run_pure, typeInfo, run_program, hi, hw1, hw2, hib]
    rw [if_neg (by simp only [Bool.or_eq_true, decide_eq_true_eq, not_or]; exact ⟨⟨⟨c1, hroom⟩, c2⟩, c3⟩)]
    simp only [Sem.run_bind, run_askRoom, Result.andThen_ok, tSize_run hs, Int.toNat_natCast, Sem.run_ite]
    split
    · rename_i h0
      have e0 : Array.range 0 = #[] := Array.eq_empty_of_size_eq_zero (by simp)
      simp [newRow, h0, e0]
    · simp [newRow, hrun]
  · rw [hi', hlenF]; simp
  · unfold OwnOK
    rw [if_neg (by simp)]
    have : len * esz ≤ cap * esz := Nat.mul_le_mul_right _ hlc
    exact ⟨_, _, rfl, hlc, .inr rfl, by simp, fun c hc => (by cases hc; exact ⟨rfl, by simp⟩), fun h => (by cases h), by simpa using this⟩
theorem s_strBytes {base w0 μ} {h h' : Hp} (S : Sim fid base w0 w μ h.get) {s d site x a r} (hs : (P.underlying s).isSome = true) (hd : tByteSlice P d = true)
    (R : Rep fid w (Wr μ h.get) (info μ h.get) x a) (hp : prim h (.strBytes site) [a] = some (r, h')) :
    ∃ z w', (convert s d x).run P w = .ok z w' ∧ Post fid base w0 w μ h.get w' h'.get z r := by
  obtain ⟨e, hu, hs1, he⟩ := tByteSlice_inv hd
  obtain ⟨f, hf⟩ := isSome_under hs
  cases a <;> first | (simp only [prim, reduceCtorEq] at hp; done) | skip
  have := R.v_inv; subst this
  cases x <;> first | (simp only [prim, reduceCtorEq] at hp; done) | skip
  rename_i b
  simp only [prim] at hp
  obtain ⟨h1, hn, he2⟩ := Option.map_eq_some_iff.1 hp
  cases he2
  have hcap : b.size ≤ grownCap w b.size 0 e := grownCap_ge w b.size 0 e
  have hsz : (Lib.bytesCells w e b).size = grownCap w b.size 0 e := by simp [Lib.bytesCells]; have : b.data.size = b.size := rfl; omega
  obtain ⟨S', p, hi⟩ := sim_new S hn (Lib.bytesWorld w e b) (Lib.bytesCells w e b) e (Lib.bytesCells w e b).size ((Lib.bytesCells w e b).size + 1)
    (by
      apply Array.ext_getElem?
      intro k
      by_cases h1 : k < w.heap.size
      · rw [Lib.bytesWorld_at_old w e b k h1, Array.getElem?_push, if_neg (by omega)]
      · by_cases h2 : k = w.heap.size
        · subst h2; rw [Lib.bytesWorld_at_new]; simp
        · rw [Array.getElem?_eq_none (by rw [Lib.bytesWorld_size]; omega), Array.getElem?_eq_none (by simp; omega)])
    (by simp [Lib.bytesWorld, World.freeze, World.alloc, World.drew, -World.alloc_eq, -World.drew_eq])
    (by simp [Lib.bytesWorld, World.freeze, World.alloc, World.drew, -World.alloc_eq, -World.drew_eq])
    (by simp [Lib.bytesWorld, World.freeze, World.alloc, World.drew, -World.alloc_eq, -World.drew_eq])
    (.inr ⟨Nat.le_refl _, rfl⟩) rfl (by simp [hsz]; have : b.data.size = b.size := rfl; omega) (fun h => by cases h)
    (fun x hx => by
      simp only [Lib.bytesCells, Array.mem_append, Array.mem_map, Array.mem_replicate] at hx
      rcases hx with ⟨c, _, rfl⟩ | ⟨_, rfl⟩ <;> rfl)
    (fun _ => lfs_iff.2 fun a ha => by obtain ⟨c, _, rfl⟩ := List.mem_map.1 ha; rfl)
    (fun i a ha => by
      rw [List.getElem?_map] at ha
      obtain ⟨c, hc, rfl⟩ := Option.map_eq_some_iff.1 ha
      have hlt : i < b.data.size := by
        by_cases h : i < b.data.size
        · exact h
        · rw [List.getElem?_eq_none (by simpa using h)] at hc; cases hc
      refine ⟨.int .u8 c.toNat, ?_, .v _⟩
      rw [Lib.bytesCells, Array.getElem?_append_left (by simpa using hlt), Array.getElem?_map]
      rw [Array.getElem?_toList] at hc
      simp [hc])
  refine ⟨_, _, Lib.run_convert_string_bytes w s d e b hf hu he, _, S', p, .own hi (by simp) (fun _ => ?_) ⟨_, _, rfl, hcap, fun h => (by cases h), fun c hc => by cases hc⟩⟩
  unfold OwnOK
  rw [if_neg (by simp)]
  have : b.data.size = b.size := rfl
  exact ⟨_, _, rfl, hcap, .inr rfl, by simp [hsz], fun c hc => (by cases hc), fun _ => by simp; omega, by simp⟩
end
end Go.AM
namespace Go.AM
open Go.RowKit
variable {fid : String → Option FuncId} {P : Program}
section
variable {w : World} {W : Nat → Prop} {M : Lab → Option LInfo}
theorem places_inv {place : Nat → Option (Nat × Nat)} : ∀ {ps : List (Nat × Operand)} {qs : List (Nat × Nat)}, placesOK place ps qs = true →
    qs.length = ps.length ∧ ∀ (i : Nat) p, ps[i]? = some p → place p.1 = qs[i]?
  | [], [], _ => ⟨rfl, fun i p h => by simp at h⟩
  | (k, x) :: ps, q :: qs, h => by
    simp only [placesOK, Bool.and_eq_true, beq_iff_eq] at h
    obtain ⟨h1, h2⟩ := places_inv h.2
    refine ⟨by simp [h1], fun i p hp => ?_⟩
    cases i with
    | zero => simp at hp; subst hp; simpa using h.1
    | succ i => simpa using h2 i p (by simpa using hp)
  | [], _ :: _, h => by simp [placesOK] at h
  | _ :: _, [], h => by simp [placesOK] at h
theorem parts_get {ρ : Operand → Value} {place : Nat → Option (Nat × Nat)} {ps : List (Nat × Operand)} {qs : List (Nat × Nat)}
    (h : ∀ (i : Nat) p, ps[i]? = some p → place p.1 = qs[i]?) : ∀ (i : Nat) p, (ps.map fun p => (p.1, ρ p.2))[i]? = some p → place p.1 = qs[i]? := by
  intro i p hp
  rw [List.getElem?_map] at hp
  obtain ⟨q, hq, rfl⟩ := Option.map_eq_some_iff.1 hp
  exact h i q hq
theorem s_build {t zero qs} {parts : Array (Nat × Operand)} {ρ : Operand → Value} {as r} (hz : tZero P t zero = true) (hq : tPlaces P t parts.toList qs = true)
    (R : Reps fid w W M ((parts.toList.map (·.2)).map ρ) as) {h h' : Hp} (hp : prim h (.build zero qs) as = some (r, h')) :
    h' = h ∧ ∃ y, (Instr.build t (parts.map fun (i, x) => (i, ρ x))).run P w = .ok y w ∧ Rep fid w W M y r := by
  obtain ⟨z, hzc, hone, hrun⟩ := zero_run hz
  simp only [prim] at hp
  obtain ⟨cs, hf, he⟩ := Option.map_eq_some_iff.1 hp
  cases he
  have R' : Reps fid w W M ((parts.toList.map fun p => (p.1, ρ p.2)).map (·.2)) as := by
    have e : ((parts.toList.map fun p => (p.1, ρ p.2)).map (·.2)) = ((parts.toList.map (·.2)).map ρ) := by simp
    rw [e]; exact R
  have hone' : ∀ x ∈ z.cells, x.oneCell' = true := fun x hx => hone x (by rw [← hzc]; exact Array.mem_toList_iff.2 hx)
  have Rz : Reps fid w W M z.cells.toList (zero.map .v) := by rw [hzc]; exact .ofV zero
  have hparts : (parts.map fun (i, x) => (i, ρ x)).toList = parts.toList.map fun p => (p.1, ρ p.2) := by simp
  have fin : ∀ place : Nat → Option (Nat × Nat), placesOK place parts.toList qs = true →
      ∃ c', Instr.fill place z.cells (parts.map fun (i, x) => (i, ρ x)).toList = some c' ∧ Rep fid w W M (.agg c') (.agg cs) := by
    intro place hpl
    obtain ⟨h1, h2⟩ := places_inv hpl
    obtain ⟨c', hf', Rc, hc1⟩ := fills_sound (c := z.cells) place Rz R' (parts_get h2) (by simp [h1]) hf hone'
    refine ⟨c', by rw [hparts]; exact hf', ?_⟩
    have := Rep.agg (fid := fid) (w := w) (W := W) (M := M) (xs := c'.toList) (as := cs) Rc.1 (fun x hx => hc1 x (Array.mem_toList_iff.1 hx)) Rc.2
    simpa using this
  unfold tPlaces at hq
  split at hq <;> first | (cases hq; done) | skip
  · rename_i fs hu
    simp only [Bool.and_eq_true, List.all_eq_true] at hq
    obtain ⟨hall, hpl⟩ := hq
    obtain ⟨c', hf', Rc⟩ := fin _ hpl
    refine ⟨rfl, .agg c', ?_, Rc⟩
    have hmap : ∀ (l : List Field), (∀ f ∈ l, (P.info? f.type).isSome = true) → ∀ w : World,
        (l.mapM fun f => do pure (f.offset, ← sizeOf f.type) : Sem (List (Nat × Nat))).run P w = .ok (l.map fun f => (f.offset, ((P.info? f.type).map (·.size)).getD 0)) w := by
      intro l
      induction l with
      | nil => intro _ w; simp
      | cons f l ih =>
        intro hl w
        obtain ⟨i, hi⟩ := Option.isSome_iff_exists.1 (hl f (by simp))
        have := ih (fun g hg => hl g (by simp [hg])) w
        simp only [List.mapM_cons, Sem.run_bind, sizeOf, typeInfo, run_program, Result.andThen_ok, hi, Sem.run_pure, List.map_cons]
        simp only [sizeOf, typeInfo] at this
        rw [this]
        simp
    have hm2 : (fs.mapM fun f => do pure (f.offset, ← sizeOf f.type) : Sem (Array (Nat × Nat))).run P w = .ok (fs.map fun f => (f.offset, ((P.info? f.type).map (·.size)).getD 0)) w := by
      have := hmap fs.toList (fun f hf => hall f hf) w
      rw [Array.mapM_eq_mapM_toList, Sem.run_map, this]
      simp only [Result.andThen_ok]
      congr 1
      apply Array.toList_inj.1
      simp
    have hplace : (fun i => (fs.map fun f => (f.offset, ((P.info? f.type).map (·.size)).getD 0))[i]?) =
        (fun (i : Nat) => (fs[i]?).bind fun (f : Field) => (P.info? f.type).map fun j => (f.offset, j.size)) := by
      funext i
      rw [Array.getElem?_map]
      cases hfi : fs[i]? with
      | none => rfl
      | some f =>
        have hmem : f ∈ fs.toList := by
          rw [← Array.getElem?_toList] at hfi
          exact List.mem_of_getElem? hfi
        obtain ⟨j, hj⟩ := Option.isSome_iff_exists.1 (hall f hmem)
        simp [hj]
    simp only [Instr.build, Sem.run_bind, hrun, Result.andThen_ok, run_underlying hu, hm2]
    rw [hplace, hf']
    simp
  · rename_i n e hu
    split at hq <;> first | (cases hq; done) | skip
    rename_i j hj
    obtain ⟨c', hf', Rc⟩ := fin _ hq
    refine ⟨rfl, .agg c', ?_, Rc⟩
    simp only [Instr.build, Sem.run_bind, hrun, Result.andThen_ok, run_underlying hu, sizeOf, typeInfo, run_program, hj, Sem.run_pure]
    rw [hf']
    simp
theorem s_buildSlice {base w0 μ} {h h' : Hp} (S : Sim fid base w0 w μ h.get) {t site frz esz len zero qs} {parts : Array (Nat × Operand)} {ρ : Operand → Value} {as r}
    (ht : ∃ e, P.underlying t = some (.slice e) ∧ tSize P e esz = true ∧ tZero P e zero = true ∧ placesOK (fun i => some (i * esz, esz)) parts.toList qs = true)
    (hzl : zero.length = esz) (hsmall : len * esz ≤ 16777216)
    (R : Reps fid w (Wr μ h.get) (info μ h.get) ((parts.toList.map (·.2)).map ρ) as) (hp : prim h (.buildSlice site frz esz len zero qs) as = some (r, h')) :
    ∃ y w', (Instr.buildSlice t len (parts.map fun (i, x) => (i, ρ x))).run P w = .ok y w' ∧ Post fid base w0 w μ h.get w' h'.get y r := by
  obtain ⟨e, hu, hs, hz, hpl⟩ := ht
  obtain ⟨z, hzc, hone, hrun⟩ := zero_run hz
  simp only [prim] at hp
  obtain ⟨⟨as', h1⟩, hfz, hp1⟩ := Option.bind_eq_some_iff.1 hp
  obtain ⟨cs, hf, hp2⟩ := Option.bind_eq_some_iff.1 hp1
  split at hp2 <;> first | (cases hp2; done) | skip
  rename_i hcl
  obtain ⟨h2, hn, he⟩ := Option.map_eq_some_iff.1 hp2
  cases he
  obtain ⟨S1, p1, R1⟩ := mayFreeze_sound S R hfz
  have hzsz : z.cells.size = esz := by rw [← hzl, ← hzc]; simp
  have R' : Reps fid w (Wr μ h1.get) (info μ h1.get) ((parts.toList.map fun p => (p.1, ρ p.2)).map (·.2)) as' := by
    have e : ((parts.toList.map fun p => (p.1, ρ p.2)).map (·.2)) = ((parts.toList.map (·.2)).map ρ) := by simp
    rw [e]; exact R1
  have hparts : (parts.map fun (i, x) => (i, ρ x)).toList = parts.toList.map fun p => (p.1, ρ p.2) := by simp
  obtain ⟨zc, hzc2, hz0, hz1⟩ : ∃ zc : Array Value, zc.toList = (List.replicate len zero).flatten ∧ (len * esz = 0 → zc = #[]) ∧
      (len * esz ≠ 0 → zc = (Array.range (len * esz)).map (fun i => z.cells[i % z.cells.size]!)) := by
    by_cases h0 : len * esz = 0
    · refine ⟨#[], ?_, fun _ => rfl, fun h => absurd h0 h⟩
      have : ((List.replicate len zero).flatten).length = 0 := by simp [hzl, h0]
      rw [List.eq_nil_of_length_eq_zero this]
    · refine ⟨(Array.range (len * esz)).map (fun i => z.cells[i % z.cells.size]!), ?_, fun h => absurd h h0, fun _ => rfl⟩
      rw [cyc_eq z.cells len (len * esz) (by rw [hzsz]) (by
          rw [hzsz]
          rcases Nat.eq_zero_or_pos esz with h | h
          · subst h; simp at h0
          · exact h), hzc]
  have hone' : ∀ x ∈ zc, x.oneCell' = true := fun x hx => hone x (mem_flat (by rw [← hzc2]; exact Array.mem_toList_iff.2 hx))
  obtain ⟨g1, g2⟩ := places_inv hpl
  obtain ⟨c', hf', Rc, hc1⟩ := fills_sound (c := zc) (cells := (List.replicate len (zero.map AV.v)).flatten) (fun i => some (i * esz, esz)) (by rw [hzc2]; exact flat_reps len) R' (parts_get (ρ := ρ) (place := fun i => some (i * esz, esz)) g2) (by simp [g1]) hf hone'
  obtain ⟨μ', S', p, hi⟩ := row_new S1 hn e c' Rc hc1
  have hcs : c'.size = len * esz := by rw [← hcl, ← Rc.1]; simp
  refine ⟨.slice (some ⟨w.heap.size, 0, none⟩) len len, _, ?_, μ', S', p1.trans p, .own hi (by rw [hcl]; exact Nat.le_refl _) (fun _ => ?_) ⟨_, _, rfl, Nat.le_refl _, fun h => (by cases h), fun c hc => (by cases hc; rfl)⟩⟩
  · simp only [Instr.buildSlice, Sem.run_bind, run_underlying hu, Result.andThen_ok, tSize_run hs]
    rw [if_neg (by simp; omega)]
    by_cases h0 : len * esz = 0
    · have e0 : Array.range 0 = #[] := Array.eq_empty_of_size_eq_zero (by simp)
      rw [hz0 h0] at hf'
      simp only [h0, if_true, Sem.run_bind, Sem.run_pure, Result.andThen_ok, e0, Array.map_empty]
      rw [hparts, hf']
      simp [newRow]
    · rw [hz1 h0] at hf'
      simp only [h0, if_false, Sem.run_bind, Sem.run_pure, hrun, Result.andThen_ok]
      rw [hparts, hf']
      simp [newRow]
  · unfold OwnOK
    rw [if_neg (by simp)]
    exact ⟨_, _, rfl, Nat.le_refl _, .inr rfl, by simp [hcs], fun c hc => (by cases hc; exact ⟨rfl, by simp [hcl]⟩), fun h => (by cases h), by simp [hcl]⟩
end
end Go.AM
namespace Go.AM
open Go.RowKit
variable {fid : String → Option FuncId} {P : Program}
section
variable {w : World}
theorem upd_self {α : Type} (f : Lab → α) (ℓ : Lab) (x : α) (h : f ℓ = x) : upd f ℓ x = f := by
  funext ℓ'; simp only [upd]; split
  · rename_i e; rw [e, h]
  · rfl
theorem put_lay {base w0 μ} {h : Hp} (S : Sim fid base w0 w μ h.get) {ℓ B} (hb : h.get ℓ = some B) (hwr : B.wr = true) (hv : B.virt = false) {off : Nat} {vs : List Value} {new : List AV}
    (R : Reps fid w (Wr μ h.get) (info μ h.get) vs new) (hone : ∀ v ∈ vs, v.oneCell' = true) (hle : off + new.length ≤ B.cells.length) :
    ∃ w', (∀ P : Program, (storeCells ⟨(μ ℓ).1, off, none⟩ vs).run P w = .ok () w') ∧
      Sim fid base w0 w' μ (h.put ℓ (some { B with cells := lay B.cells off new, data := B.data && AV.lf.lfs new })).get ∧
      Pres w (Wr μ h.get) (info μ h.get) w' (Wr μ (h.put ℓ (some { B with cells := lay B.cells off new, data := B.data && AV.lf.lfs new })).get)
        (info μ (h.put ℓ (some { B with cells := lay B.cells off new, data := B.data && AV.lf.lfs new })).get) := by
  obtain ⟨c, e, lo, hi, h1, h2, h3, h4, h5, h6, h7⟩ := S.row hb hv
  have hlt : (μ ℓ).1 < w.heap.size := (S.ok.blk ℓ B hb).lt hv
  have hvl : vs.length = new.length := R.1
  have hoff : off + vs.length ≤ c.size := by omega
  have hdat := (S.ok.blk ℓ B hb).data
  refine ⟨setBlk w (μ ℓ).1 (.cells (layC c off vs) e (lo, hi)), fun P => ?_, ?_⟩
  · have := run_storeCells_blk (P := P) vs 0 c w (μ ℓ).1 off e lo hi h1 (nofr h3) (by simpa using hoff) hone
    simpa using this
  · have hμ : μ ℓ = ((μ ℓ).1, (layC c off vs).size) := by rw [layC_size hoff, h2]
    obtain ⟨S', p, _⟩ := sim_put S (B' := { B with cells := lay B.cells off new, data := B.data && AV.lf.lfs new }) hb hwr (setBlk w (μ ℓ).1 (.cells (layC c off vs) e (lo, hi))) (μ ℓ).1 (layC c off vs) e lo hi
      (by simp [setBlk, hlt]) (fun k hk hne => by simp [setBlk, Ne.symm hne]) (by simp [setBlk]) rfl rfl rfl (.inl ⟨hv, rfl⟩)
      (by rw [layC_size hoff]; exact h3) hv (by simp only [lay_length hle]; rw [layC_size hoff]; exact h4) (fun ho => by simp only [lay_length hle]; rw [layC_size hoff]; exact h5 ho)
      (.inl ⟨lay_length hle, hv, hμ⟩) (fun x hx => by
        rcases layC_mem hx with hx | hx
        · exact h6 x hx
        · exact hone x hx)
      (fun hd => by
        simp only [Bool.and_eq_true] at hd
        exact lay_lfs (hdat hd.1) hd.2)
      (fun i a ha => by
        simp only at ha
        rw [lay_get hle] at ha
        rw [layC_get hoff]
        split at ha
        · rename_i hi'; rw [if_pos hi']; exact h7 i a ha
        · rename_i hi'
          rw [if_neg hi']
          split at ha
          · rename_i hi2
            rw [if_pos (by omega)]
            have hj : i - off < vs.length := by omega
            exact ⟨vs[i - off], List.getElem?_eq_getElem hj, R.2 _ _ _ (List.getElem?_eq_getElem hj) ha⟩
          · rename_i hi2
            rw [if_neg (by omega)]
            exact h7 i a ha)
    rw [upd_self μ ℓ _ hμ] at S' p
    exact ⟨S', p⟩
theorem s_store {base w0 μ} {h h' : Hp} (S : Sim fid base w0 w μ h.get) {t sz frz x y a b r} (ht : tSize P t sz = true) (R1 : Rep fid w (Wr μ h.get) (info μ h.get) x a)
    (R2 : Rep fid w (Wr μ h.get) (info μ h.get) y b) (hp : prim h (.store sz frz) [a, b] = some (r, h')) :
    ∃ w', (Instr.storeAt t x y).run P w = .ok () w' ∧ Post fid base w0 w μ h.get w' h'.get undef r := by
  cases a <;> first | (simp only [prim, reduceCtorEq] at hp; done) | skip
  rename_i ℓ n off
  simp only [prim] at hp
  obtain ⟨cs0, hcs0, hp1⟩ := Option.bind_eq_some_iff.1 hp
  obtain ⟨⟨cs, h1⟩, hfz, hp2⟩ := Option.bind_eq_some_iff.1 hp1
  simp only at hp2
  cases hb : h1.get ℓ with
  | none => simp [hb] at hp2
  | some B =>
    simp only [hb] at hp2
    split at hp2 <;> cases hp2
    rename_i hc
    obtain ⟨hn, hwr, hsz, hle, hok⟩ := hc
    obtain ⟨xs, agg, hv, RR, _, _, hcells⟩ := cellsOf_agg R2 hcs0
    have hone := cellsOf_one R2 hcs0
    obtain ⟨S1, p1, RR1⟩ := mayFreeze_sound S RR hfz
    obtain ⟨hv', hx⟩ := (R1.pres p1).ptr_inv S1 hb hn
    subst hx
    have hone' : ∀ v ∈ xs, v.oneCell' = true := fun v hv => hone v (by rw [hcells]; exact hv)
    obtain ⟨w', hrun, S', p'⟩ := put_lay S1 hb hwr hv' RR1 hone' (off := off) (by rw [hsz, hn]; exact hle)
    refine ⟨w', ?_, μ, S', p1.trans p', .v _⟩
    have hys : y.cells.size = sz := by rw [← hsz, ← RR1.1, ← hcells]; simp
    simp [Instr.storeAt, Instr.sureAddr, storeVar, tSize_run ht, hys, hcells, hrun P]
theorem nextslicecap_le {need cap : Nat} (h : cap < need) : Builtin.nextslicecap need cap ≤ 2 * need := by
  have grow : ∀ (rounds c : Nat), 256 ≤ c → c ≤ 2 * need → Builtin.growBy need rounds c ≤ 2 * need ∨ Builtin.growBy need rounds c ≤ c := by
    intro rounds
    induction rounds with
    | zero => intro c _ h; exact .inl h
    | succ r ih =>
      intro c h1 h2
      unfold Builtin.growBy
      split
      · exact .inl h2
      · rcases ih (c + (c + 768) / 4) (by omega) (by omega) with h | h
        · exact .inl h
        · left; omega
  unfold Builtin.nextslicecap
  split
  · omega
  · split
    · omega
    · rcases grow 4 cap (by omega) (by omega) with h | h <;> omega
theorem source_sound {base w0 μ} {h : Hp} (S : Sim fid base w0 w μ h.get) {x a k new} {u : TypeId} (R : Rep fid w (Wr μ h.get) (info μ h.get) x a) (hs : h.source a = some (k, new)) (esz : Nat)
    (hlen : new.length = k * esz) (hu : (match P.underlying u with | some (.slice _) => true | some .string => true | _ => false) = true) :
    ∃ us : List Value, Reps fid w (Wr μ h.get) (info μ h.get) us new ∧ (∀ v ∈ us, v.oneCell' = true) ∧ (∀ w' : World, (Builtin.lenOf x).run P w' = .ok k w') ∧
      (∀ m n' : Nat, m ≤ k → (Builtin.firstCells esz m x).run P { w with drawn := n' } = .ok (us.take (m * esz)).toArray { w with drawn := n' }) := by
  unfold Hp.source at hs
  split at hs
  · rename_i s
    cases hs
    have := R.v_inv; subst this
    have hes : esz = 1 ∨ s.size = 0 := by
      have : s.data.size = s.size := rfl
      simp only [List.length_map, Array.length_toList] at hlen
      rcases Nat.eq_zero_or_pos s.size with h | h
      · exact .inr h
      · left
        rw [this] at hlen
        exact (Nat.mul_left_cancel h (by rw [Nat.mul_one]; exact hlen)).symm
    refine ⟨s.data.toList.map fun b => .int .u8 b.toNat, ⟨by simp, fun i x a hx ha => ?_⟩, fun v hv => ?_, fun w' => by simp [Builtin.lenOf], fun m n' hm => ?_⟩
    · rw [List.getElem?_map] at hx ha
      obtain ⟨b, hb, rfl⟩ := Option.map_eq_some_iff.1 hx
      rw [hb] at ha; cases ha
      exact .v _
    · obtain ⟨b, _, rfl⟩ := List.mem_map.1 hv; rfl
    · have e : (s.extract 0 m).data.toList = s.data.toList.take m := by
        simp [ByteArray.data_extract, List.extract_eq_take_drop]
      have : (s.data.toList.map fun b => (Value.int .u8 b.toNat)).take (m * esz) = (s.data.toList.take m).map fun b => (Value.int .u8 b.toNat) := by
        rcases hes with h | h
        · subst h; rw [Nat.mul_one, List.map_take]
        · have h0 : s.data.toList = [] := List.eq_nil_of_length_eq_zero (by simpa using h)
          simp [h0]
      rw [this]
      simp only [Builtin.firstCells, Sem.run_pure]
      congr 1
      apply Array.toList_inj.1
      simp
  · rename_i hns
    cases hl : lenOf a with
    | none => simp [hl] at hs
    | some n =>
    cases hsees : h.sees a with
    | none => simp [hl, hsees] at hs
    | some cs =>
    simp only [hl, hsees, Option.some.injEq, Prod.mk.injEq] at hs
    obtain ⟨rfl, rfl⟩ := hs
    obtain ⟨ad, C, us, rfl, hul, RR, h1, hsp, hcell, hnone⟩ := sees_sound S R hl hsees
    refine ⟨us, RR, h1, fun w' => by simp [Builtin.lenOf], fun m n' hm => ?_⟩
    cases ad with
    | none =>
      have := hnone rfl; subst this
      simp [Builtin.firstCells]
    | some ad =>
      have hlen' : (us.take (m * esz)).length = m * esz := by
        have : m * esz ≤ n * esz := Nat.mul_le_mul_right _ hm
        simp; omega
      have := run_loadCells_list (P := P) { w with drawn := n' } ad (us.take (m * esz)) fun j v hj => by
        rw [List.getElem?_take] at hj
        split at hj
        · exact hcell ad rfl j v hj
        · cases hj
      rw [hlen'] at this
      simpa [Builtin.firstCells] using this
end
end Go.AM
