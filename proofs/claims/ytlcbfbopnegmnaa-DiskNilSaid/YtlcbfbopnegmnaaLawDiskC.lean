import Derived.Test.YtlcbfbopnegmnaaDiskB
set_option linter.unusedVariables false
set_option linter.unusedSimpArgs false
namespace Go.AM
variable {prog : String → Option IFn}
variable {G : List (Option Blk)}
theorem aw6_9 : run (look fs6) 400 (.call "haberdash/haberdashlaw06.awake" [] (List.replicate 9 none)) = some (.ret (.v (.bool true)) (List.replicate 9 none)) := by kernel_rfl
theorem awake6_9 (H : Law6 prog) {G} (hG : G.length = 9) : Ev prog (.call "haberdash/haberdashlaw06.awake" [] G) (.ret (.v (.bool true)) G) := ev_run H.fs hG aw6_9
theorem may_nil (H : DiskLib prog) {at' : Int} : Ev prog (.call "(*haberdash/disk.Disk).may" [.v (.pointer none), .v (.int .i64 at')] G) (.ret (.v (.int .i64 1)) G) := by
  refine call_of_fin H.may ?_
  simp only [f___disk_Disk__may_B, enter, List.length_cons, List.length_nil, List.replicate, Nat.reduceAdd, Nat.reduceSub, List.cons_append, List.nil_append]
  simp (disch := first | (simp only [ne_eq, reduceCtorEq, not_false_eq_true, implies_true, List.getElem?_cons_zero, List.getElem?_cons_succ]; done) | omega) only [WS, St.guard, St.put, evalO, reduceCtorEq, reduceIte, Nat.reduceAdd, Nat.reduceEqDiff, isNilV, Hp.isNil, fin_tmp, leave_v]
  simp
theorem Read_nil (H : DiskLib prog) {at' : Int} : Ev prog (.call "(*haberdash/disk.Disk).Read" [.v (.pointer none), .v (.int .i64 at')] G) (.ret (.tup [.agg (zsec.1.map byteAV), .v (.int .i64 1)]) G) := by
  refine call_of_fin H.read ?_
  simp only [f___disk_Disk__Read_B, enter, List.length_cons, List.length_nil, List.replicate, Nat.reduceAdd, Nat.reduceSub, List.cons_append, List.nil_append]
  simp (disch := first | (simp only [ne_eq, reduceCtorEq, not_false_eq_true, implies_true, List.getElem?_cons_zero, List.getElem?_cons_succ]; done) | omega) only [WS, St.guard, St.put, evalO, reduceCtorEq, reduceIte, Nat.reduceAdd, Nat.reduceEqDiff, alloc_zeros]
  refine (WP_p (x := .int .i64 1) (by exact may_nil H) (by exact ⟨dBlk_good, trivial⟩)).2 ?_
  have st := store_all (G := G) (L := [some (dBlk (zs64.map byteAV) false false)]) (j := 0) (n := 64) (xs := zs64.map byteAV) (cells := zs64.map byteAV) (o := false) (v := false) rfl rfl rfl bytes_lfs
  simp (disch := first | (simp only [ne_eq, reduceCtorEq, not_false_eq_true, implies_true, List.getElem?_cons_zero, List.getElem?_cons_succ]; done) | omega) only [WS, St.guard, St.put, evalO, reduceCtorEq, reduceIte, Nat.reduceAdd, Nat.reduceEqDiff, Int.reduceBNe, build_zeros, st]
  refine ⟨.inr trivial, ?_⟩
  exact fin_sec (bs := zs64) (load_sec (o := false) (v := false) rfl rfl) rfl
theorem Write_nil (H : DiskLib prog) {at' : Int} {s : Sec} : Ev prog (.call "(*haberdash/disk.Disk).Write" [.v (.pointer none), .v (.int .i64 at'), .agg (s.1.map byteAV)] G) (.ret (.v (.int .i64 1)) G) := by
  refine call_of_fin H.write ?_
  simp only [f___disk_Disk__Write_B, enter, List.length_cons, List.length_nil, List.replicate, Nat.reduceAdd, Nat.reduceSub, List.cons_append, List.nil_append]
  simp (disch := first | (simp only [ne_eq, reduceCtorEq, not_false_eq_true, implies_true, List.getElem?_cons_zero, List.getElem?_cons_succ]; done) | omega) only [WS, St.guard, St.put, evalO, reduceCtorEq, reduceIte, Nat.reduceAdd, Nat.reduceEqDiff, box_bytes]
  refine (WP_p (x := .int .i64 1) (by exact may_nil H) (by exact ⟨dBlk_good, trivial⟩)).2 ?_
  simp (disch := first | (simp only [ne_eq, reduceCtorEq, not_false_eq_true, implies_true, List.getElem?_cons_zero, List.getElem?_cons_succ]; done) | omega) only [WS, St.guard, St.put, evalO, reduceCtorEq, reduceIte, Nat.reduceAdd, Nat.reduceEqDiff, Int.reduceBNe, fin_tmp, leave_v]
  simp
theorem Sync_nil (H : DiskLib prog) : Ev prog (.call "(*haberdash/disk.Disk).Sync" [.v (.pointer none)] G) (.ret (.v (.int .i64 1)) G) := by
  refine call_of_fin H.sync ?_
  simp only [f___disk_Disk__Sync_B, enter, List.length_cons, List.length_nil, List.replicate, Nat.reduceAdd, Nat.reduceSub, List.cons_append, List.nil_append]
  simp (disch := first | (simp only [ne_eq, reduceCtorEq, not_false_eq_true, implies_true, List.getElem?_cons_zero, List.getElem?_cons_succ]; done) | omega) only [WS, St.guard, St.put, evalO, reduceCtorEq, reduceIte, Nat.reduceAdd, Nat.reduceEqDiff]
  refine (WP_p (x := .int .i64 1) (by exact may_nil H) (by exact trivial)).2 ?_
  simp (disch := first | (simp only [ne_eq, reduceCtorEq, not_false_eq_true, implies_true, List.getElem?_cons_zero, List.getElem?_cons_succ]; done) | omega) only [WS, St.guard, St.put, evalO, reduceCtorEq, reduceIte, Nat.reduceAdd, Nat.reduceEqDiff, Int.reduceBNe, fin_tmp, leave_v]
  simp
theorem Arm_nil (H : DiskLib prog) {m : Int} : Ev prog (.call "(*haberdash/disk.Disk).Arm" [.v (.pointer none), .v (.int .i64 m)] G) (.ret (.tup []) G) := by
  refine call_of_fin H.arm ?_
  simp only [f___disk_Disk__Arm_B, enter, List.length_cons, List.length_nil, List.replicate, Nat.reduceAdd, Nat.reduceSub, List.cons_append, List.nil_append]
  simp (disch := first | (simp only [ne_eq, reduceCtorEq, not_false_eq_true, implies_true, List.getElem?_cons_zero, List.getElem?_cons_succ]; done) | omega) only [WS, St.guard, St.put, evalO, reduceCtorEq, reduceIte, Nat.reduceAdd, Nat.reduceEqDiff, isNilV, Hp.isNil]
  exact ⟨.inl trivial, fin_nil⟩
theorem Crash_nil (H : DiskLib prog) {a : AV} {ks : List Int} (va : ∀ h, View h a 1 ks.length (ks.map intAV)) : Ev prog (.call "(*haberdash/disk.Disk).Crash" [.v (.pointer none), a] G) (.ret (.tup []) G) := by
  refine call_of_fin H.crash ?_
  obtain ⟨hla, hlf, hc⟩ := ints_plain va
  simp only [f___disk_Disk__Crash_B, enter, List.length_cons, List.length_nil, List.replicate, Nat.reduceAdd, Nat.reduceSub, List.cons_append, List.nil_append]
  have bx : ∀ G, prim ⟨G, [none]⟩ (.box 0) [a] = some (.ptr (.l 0) 1 0, ⟨G, [some (sBlk [a] true)]⟩) := fun G => by
    rw [px_box, hc]
    simp only [Option.bind_some, Hp.new, List.getElem?_cons_zero, Option.map_some, newBlk_s, AV.lf.lfs, hlf]; rfl
  simp (disch := first | (simp only [ne_eq, reduceCtorEq, not_false_eq_true, implies_true, List.getElem?_cons_zero, List.getElem?_cons_succ]; done) | omega) only [WS, St.guard, St.put, evalO, reduceCtorEq, reduceIte, Nat.reduceAdd, Nat.reduceEqDiff, bx, isNilV, Hp.isNil]
  exact ⟨.inr trivial, fin_nil⟩
theorem Start_nil (H : DiskLib prog) : Ev prog (.call "(*haberdash/disk.Disk).Start" [.v (.pointer none)] G) (.ret (.tup []) G) := by
  refine call_of_fin H.start ?_
  simp only [f___disk_Disk__Start_B, enter, List.length_cons, List.length_nil, List.replicate, Nat.reduceAdd, Nat.reduceSub, List.cons_append, List.nil_append]
  simp (disch := first | (simp only [ne_eq, reduceCtorEq, not_false_eq_true, implies_true, List.getElem?_cons_zero, List.getElem?_cons_succ]; done) | omega) only [WS, St.guard, St.put, evalO, reduceCtorEq, reduceIte, Nat.reduceAdd, Nat.reduceEqDiff, isNilV, Hp.isNil]
  exact ⟨.inl trivial, fin_nil⟩
theorem Down_nil (H : DiskLib prog) : Ev prog (.call "(*haberdash/disk.Disk).Down" [.v (.pointer none)] G) (.ret (.v (.bool false)) G) := by
  refine call_of_fin H.down ?_
  simp only [f___disk_Disk__Down_B, enter, List.length_cons, List.length_nil, List.replicate, Nat.reduceAdd, Nat.reduceSub, List.cons_append, List.nil_append]
  simp (disch := first | (simp only [ne_eq, reduceCtorEq, not_false_eq_true, implies_true, List.getElem?_cons_zero, List.getElem?_cons_succ]; done) | omega) only [WS, St.guard, St.put, evalO, reduceCtorEq, reduceIte, Nat.reduceAdd, Nat.reduceEqDiff, isNilV, Hp.isNil, fin_tmp, leave_v]
  simp
theorem Len_nil (H : DiskLib prog) : Ev prog (.call "(*haberdash/disk.Disk).Len" [.v (.pointer none)] G) (.ret (.v (.int .i64 0)) G) := by
  refine call_of_fin H.len ?_
  simp only [f___disk_Disk__Len_B, enter, List.length_cons, List.length_nil, List.replicate, Nat.reduceAdd, Nat.reduceSub, List.cons_append, List.nil_append]
  simp (disch := first | (simp only [ne_eq, reduceCtorEq, not_false_eq_true, implies_true, List.getElem?_cons_zero, List.getElem?_cons_succ]; done) | omega) only [WS, St.guard, St.put, evalO, reduceCtorEq, reduceIte, Nat.reduceAdd, Nat.reduceEqDiff, isNilV, Hp.isNil, fin_tmp, leave_v]
  simp
theorem Fork_nil (hf : prog "(*haberdash/disk.Disk).Fork" = some f___disk_Disk__Fork) : Ev prog (.call "(*haberdash/disk.Disk).Fork" [.v (.pointer none)] G) (.ret (.v (.pointer none)) G) := by
  refine call_of_fin hf ?_
  simp only [f___disk_Disk__Fork_B, enter, List.length_cons, List.length_nil, List.replicate, Nat.reduceAdd, Nat.reduceSub, List.cons_append, List.nil_append]
  simp (disch := first | (simp only [ne_eq, reduceCtorEq, not_false_eq_true, implies_true, List.getElem?_cons_zero, List.getElem?_cons_succ]; done) | omega) only [WS, St.guard, St.put, evalO, reduceCtorEq, reduceIte, Nat.reduceAdd, Nat.reduceEqDiff, isNilV, Hp.isNil, fin_tmp, leave_v]
  simp
theorem New_bad (H : DiskLib prog) {n : Int} (h : n < 1 ∨ n > 20000) : Ev prog (.call "haberdash/disk.New" [.v (.int .i64 n)] G) (.ret (.tup [.v (.pointer none), .v (.int .i64 2)]) G) := by
  refine call_of_fin H.new ?_
  simp only [f_disk_New_B, enter, List.length_cons, List.length_nil, List.replicate, Nat.reduceAdd, Nat.reduceSub, List.cons_append, List.nil_append]
  by_cases h1 : n < 1
  · simp (disch := first | (simp only [ne_eq, reduceCtorEq, not_false_eq_true, implies_true, List.getElem?_cons_zero, List.getElem?_cons_succ]; done) | omega) only [WS, St.guard, St.put, evalO, reduceCtorEq, reduceIte, Nat.reduceAdd, Nat.reduceEqDiff, h1, decide_true, fin_tmp2]
    exact ⟨.inr trivial, leave_lf rfl⟩
  · have h2 : n > 20000 := by omega
    simp (disch := first | (simp only [ne_eq, reduceCtorEq, not_false_eq_true, implies_true, List.getElem?_cons_zero, List.getElem?_cons_succ]; done) | omega) only [WS, St.guard, St.put, evalO, reduceCtorEq, reduceIte, Nat.reduceAdd, Nat.reduceEqDiff, h1, h2, decide_true, decide_false, fin_tmp2]
    exact ⟨.inr trivial, leave_lf rfl⟩
theorem op_noneR {f sites xs} {r : AV} {h : Hp} (he : Ev prog (.call f (xs.map (AV.ren (up h.G.length))) h.into) (.ret r h.into)) (hr : r.lf = true) (hn : sites.Nodup) (hf : sites.all (free h.L) = true) (hg : Good h) :
    Ev prog (.op (.call f sites) xs h) (.val r h) := by
  refine .opCall hg.okBlks he ?_
  have hb := back_into (h := h) (h' := h) (sites := sites) (Bs := []) (r := r) rfl rfl hg.refsOK (by simp) hn hf hf
  rw [List.append_nil] at hb
  rw [hb]
  have e : (padTo sites.length []).map (Option.map (Blk.ren (down h.G.length h.L.length sites))) = List.replicate sites.length none := by simp [padTo]
  have e2 : r.ren (down h.G.length h.L.length sites) = r := ren_id fun ℓ hℓ => by rw [lf_of_labs_nil hr] at hℓ; cases hℓ
  rw [e, putAll_none hf, e2]
theorem lWNil (H : DiskLib prog) {h : Hp} (hg : Good h) {at' : Int} {s : Sec} : Ev prog (.op (.call "(*haberdash/disk.Disk).Write" []) [.v (.pointer none), .v (.int .i64 at'), .agg (s.1.map byteAV)] h) (.val (.v (.int .i64 1)) h) := by
  have e : AV.ren (up h.G.length) (.agg (s.1.map byteAV)) = .agg (s.1.map byteAV) := ren_id fun ℓ hℓ => by rw [lf_of_labs_nil (by simp [AV.lf, bytes_lfs])] at hℓ; cases hℓ
  refine op_turn h ?_ rfl rfl rfl hg hg
  simp only [List.map_cons, List.map_nil, e]
  exact Write_nil H
theorem lCNil (H : DiskLib prog) {h : Hp} (hg : Good h) {a : AV} {ks : List Int} (va : ∀ h, View h a 1 ks.length (ks.map intAV)) : Ev prog (.op (.call "(*haberdash/disk.Disk).Crash" []) [.v (.pointer none), a] h) (.val (.tup []) h) := by
  have e : AV.ren (up h.G.length) a = a := ren_id fun ℓ hℓ => by rw [(ints_plain va).1] at hℓ; cases hℓ
  refine op_turn h ?_ rfl rfl rfl hg hg
  simp only [List.map_cons, List.map_nil, e]
  exact Crash_nil H va
structure Law6N (prog : String → Option IFn) : Prop extends Law6 prog where
  fork : prog "(*haberdash/disk.Disk).Fork" = some f___disk_Disk__Fork
set_option maxRecDepth 100000 in
set_option maxHeartbeats 4000000 in
theorem DiskNil_law (H : Law6N prog) (hp : prog "haberdash/haberdashlaw06.DiskNil" = some f_law06_DiskNil) {args} (h : IsAll [.int .i64, .int .i64, .slice (.int .i64)] args) :
    ∃ G2, Ev prog (.call "haberdash/haberdashlaw06.DiskNil" args []) (.ret (.v (.bool true)) G2) := by
  rcases args with _ | ⟨a0, _ | ⟨a1, _ | ⟨a2, _ | _⟩⟩⟩ <;> try (simp [IsAll] at h; done)
  obtain ⟨⟨c0', h0, rfl⟩, ⟨c1', h1, rfl⟩, ⟨c2', h2, rfl⟩, _⟩ := h
  obtain ⟨at', rfl, hat⟩ := is_i64 h0
  obtain ⟨n, rfl, hn⟩ := is_i64 h1
  obtain ⟨c, ks, rfl, vc, hcm, hI⟩ := is_ints h2
  have L := H.toDiskLib
  refine ⟨[], call_of_fin hp ?_⟩
  simp only [f_law06_DiskNil_B, enter, List.length_cons, List.length_nil, List.replicate, Nat.reduceAdd, Nat.reduceSub, List.cons_append, List.nil_append, Ty.arg, intAV]
  simp (disch := first | (simp only [ne_eq, reduceCtorEq, not_false_eq_true, implies_true, List.getElem?_cons_zero, List.getElem?_cons_succ]; done) | omega) only [WS, St.guard, St.put, evalO, reduceCtorEq, reduceIte, Nat.reduceAdd, Nat.reduceEqDiff]
  have g0 : Good ⟨[], [none, none, none, none, none, none, none, none, none]⟩ := trivial
  have gz : Good ⟨[], [some (dBlk (zs64.map byteAV) false false), none, none, none, none, none, none, none, none]⟩ := ⟨dBlk_good, trivial⟩
  refine WP_of (op_noneR (by exact Read_nil L) (by simp [AV.lf, AV.lf.lfs, bytes_lfs]) (by decide) rfl g0) ?_
  have st := store_all (G := []) (L := [some (dBlk (zs64.map byteAV) false false), none, none, none, none, none, none, none, none]) (j := 0) (n := 64) (xs := zsec.1.map byteAV) (cells := zs64.map byteAV) (o := false) (v := false) rfl rfl rfl bytes_lfs
  simp (disch := first | (simp only [ne_eq, reduceCtorEq, not_false_eq_true, implies_true, List.getElem?_cons_zero, List.getElem?_cons_succ]; done) | omega) only [WS, St.guard, St.put, evalO, reduceCtorEq, reduceIte, Nat.reduceAdd, Nat.reduceEqDiff, alloc_zeros, st]
  refine (WP_r (r := .agg ((fullS 3).1.map byteAV)) (by exact full_spec L (c := 3)) (by simp [AV.lf, bytes_lfs]) (by exact gz)).2 ?_
  simp (disch := first | (simp only [ne_eq, reduceCtorEq, not_false_eq_true, implies_true, List.getElem?_cons_zero, List.getElem?_cons_succ]; done) | omega) only [WS, St.guard, St.put, evalO, reduceCtorEq, reduceIte, Nat.reduceAdd, Nat.reduceEqDiff]
  refine WP_of (lWNil L gz) ?_
  simp (disch := first | (simp only [ne_eq, reduceCtorEq, not_false_eq_true, implies_true, List.getElem?_cons_zero, List.getElem?_cons_succ]; done) | omega) only [WS, St.guard, St.put, evalO, reduceCtorEq, reduceIte, Nat.reduceAdd, Nat.reduceEqDiff]
  refine (WP_p (x := .int .i64 1) (by exact Sync_nil L) gz).2 ?_
  simp (disch := first | (simp only [ne_eq, reduceCtorEq, not_false_eq_true, implies_true, List.getElem?_cons_zero, List.getElem?_cons_succ]; done) | omega) only [WS, St.guard, St.put, evalO, reduceCtorEq, reduceIte, Nat.reduceAdd, Nat.reduceEqDiff]
  refine (WP_r (r := .tup []) (by exact Arm_nil L) rfl gz).2 ?_
  simp (disch := first | (simp only [ne_eq, reduceCtorEq, not_false_eq_true, implies_true, List.getElem?_cons_zero, List.getElem?_cons_succ]; done) | omega) only [WS, St.guard, St.put, evalO, reduceCtorEq, reduceIte, Nat.reduceAdd, Nat.reduceEqDiff]
  refine WP_of (lCNil L gz vc) ?_
  simp (disch := first | (simp only [ne_eq, reduceCtorEq, not_false_eq_true, implies_true, List.getElem?_cons_zero, List.getElem?_cons_succ]; done) | omega) only [WS, St.guard, St.put, evalO, reduceCtorEq, reduceIte, Nat.reduceAdd, Nat.reduceEqDiff]
  refine (WP_r (r := .tup []) (by exact Start_nil L) rfl gz).2 ?_
  simp (disch := first | (simp only [ne_eq, reduceCtorEq, not_false_eq_true, implies_true, List.getElem?_cons_zero, List.getElem?_cons_succ]; done) | omega) only [WS, St.guard, St.put, evalO, reduceCtorEq, reduceIte, Nat.reduceAdd, Nat.reduceEqDiff]
  by_cases hbad : n < 1 ∨ n > 20000
  · refine WP_of (op_noneR (by exact New_bad L hbad) rfl (by decide) rfl gz) ?_
    have k1 : ¬ (n > 2000 ∧ n ≤ 20000) := by omega
    have k2 : ¬ (n ≥ 1 ∧ n ≤ 20000) := by omega
    have x1 : (decide (n > 2000) && decide (n ≤ 20000)) = false := by simpa using k1
    by_cases q1 : n > 2000
    · have q2 : ¬ n ≤ 20000 := by omega
      have q3 : n ≥ 1 := by omega
      simp (disch := first | (simp only [ne_eq, reduceCtorEq, not_false_eq_true, implies_true, List.getElem?_cons_zero, List.getElem?_cons_succ]; done) | omega) only [WS, St.guard, St.put, evalO, reduceCtorEq, reduceIte, Nat.reduceAdd, Nat.reduceEqDiff, q1, q2, q3, decide_true, decide_false]
      refine (WP_p (x := .bool true) (by exact awake6_9 H.toLaw6 rfl) gz).2 ?_
      simp (disch := first | (simp only [ne_eq, reduceCtorEq, not_false_eq_true, implies_true, List.getElem?_cons_zero, List.getElem?_cons_succ]; done) | omega) only [WS, St.guard, St.put, evalO, reduceCtorEq, reduceIte, Nat.reduceAdd, Nat.reduceEqDiff, Int.reduceBEq]
      refine (WP_p (x := .bool false) (by exact Down_nil L) gz).2 ?_
      simp (disch := first | (simp only [ne_eq, reduceCtorEq, not_false_eq_true, implies_true, List.getElem?_cons_zero, List.getElem?_cons_succ]; done) | omega) only [WS, St.guard, St.put, evalO, reduceCtorEq, reduceIte, Nat.reduceAdd, Nat.reduceEqDiff]
      refine (WP_p (x := .int .i64 0) (by exact Len_nil L) gz).2 ?_
      simp (disch := first | (simp only [ne_eq, reduceCtorEq, not_false_eq_true, implies_true, List.getElem?_cons_zero, List.getElem?_cons_succ]; done) | omega) only [WS, St.guard, St.put, evalO, reduceCtorEq, reduceIte, Nat.reduceAdd, Nat.reduceEqDiff, Int.reduceBEq]
      refine WP_of (op_none (by exact Fork_nil H.fork) (by decide) rfl gz) ?_
      simp (disch := first | (simp only [ne_eq, reduceCtorEq, not_false_eq_true, implies_true, List.getElem?_cons_zero, List.getElem?_cons_succ]; done) | omega) only [WS, St.guard, St.put, evalO, reduceCtorEq, reduceIte, Nat.reduceAdd, Nat.reduceEqDiff, Int.reduceBEq, isNilV, Hp.isNil, fin_tmp, leave_v]
      simp
    · have q3 : ¬ n ≥ 1 := by omega
      simp (disch := first | (simp only [ne_eq, reduceCtorEq, not_false_eq_true, implies_true, List.getElem?_cons_zero, List.getElem?_cons_succ]; done) | omega) only [WS, St.guard, St.put, evalO, reduceCtorEq, reduceIte, Nat.reduceAdd, Nat.reduceEqDiff, q1, q3, decide_true, decide_false]
      refine (WP_p (x := .bool true) (by exact awake6_9 H.toLaw6 rfl) gz).2 ?_
      simp (disch := first | (simp only [ne_eq, reduceCtorEq, not_false_eq_true, implies_true, List.getElem?_cons_zero, List.getElem?_cons_succ]; done) | omega) only [WS, St.guard, St.put, evalO, reduceCtorEq, reduceIte, Nat.reduceAdd, Nat.reduceEqDiff, Int.reduceBEq]
      refine (WP_p (x := .bool false) (by exact Down_nil L) gz).2 ?_
      simp (disch := first | (simp only [ne_eq, reduceCtorEq, not_false_eq_true, implies_true, List.getElem?_cons_zero, List.getElem?_cons_succ]; done) | omega) only [WS, St.guard, St.put, evalO, reduceCtorEq, reduceIte, Nat.reduceAdd, Nat.reduceEqDiff]
      refine (WP_p (x := .int .i64 0) (by exact Len_nil L) gz).2 ?_
      simp (disch := first | (simp only [ne_eq, reduceCtorEq, not_false_eq_true, implies_true, List.getElem?_cons_zero, List.getElem?_cons_succ]; done) | omega) only [WS, St.guard, St.put, evalO, reduceCtorEq, reduceIte, Nat.reduceAdd, Nat.reduceEqDiff, Int.reduceBEq]
      refine WP_of (op_none (by exact Fork_nil H.fork) (by decide) rfl gz) ?_
      simp (disch := first | (simp only [ne_eq, reduceCtorEq, not_false_eq_true, implies_true, List.getElem?_cons_zero, List.getElem?_cons_succ]; done) | omega) only [WS, St.guard, St.put, evalO, reduceCtorEq, reduceIte, Nat.reduceAdd, Nat.reduceEqDiff, Int.reduceBEq, isNilV, Hp.isNil, fin_tmp, leave_v]
      simp
  · obtain ⟨N, rfl⟩ : ∃ N : Nat, n = (N : Int) := ⟨n.toNat, by omega⟩
    have op := op_dsk (f := "haberdash/disk.New") (xs := [.v (.int .i64 (N : Nat))]) (i0 := 1) (i1 := 2) (i2 := 3) (i3 := 4) (h := ⟨[], [some (dBlk (zs64.map byteAV) false false), none, none, none, none, none, none, none, none]⟩) (D := newD N) (R := fun a => .tup [a, .v (.int .i64 0)]) (fun ρ a => rfl) (New_spec L (by omega) (by omega)) (by decide) rfl rfl rfl rfl gz
    refine WP_of op ?_
    have gx : Good ⟨[], [some (dBlk (zs64.map byteAV) false false), dboo false (newD N).l, dsec false (newD N).b, dsec false (newD N).a, dobj .l ⟨3, 2, 1, 4, some N, some N, some N, false, false, false⟩ (newD N), none, none, none, none]⟩ := ⟨dBlk_good, dBlk_good, dBlk_good, dBlk_good, sBlk_good rfl, trivial⟩
    have q2 : (N : Int) ≤ 20000 := by omega
    have q3 : (N : Int) ≥ 1 := by omega
    by_cases q1 : (N : Int) > 2000
    · simp (disch := first | (simp only [ne_eq, reduceCtorEq, not_false_eq_true, implies_true, List.getElem?_cons_zero, List.getElem?_cons_succ]; done) | omega) only [WS, St.guard, St.put, evalO, reduceCtorEq, reduceIte, Nat.reduceAdd, Nat.reduceEqDiff, q1, q2, decide_true]
      refine (WP_p (x := .bool true) (by exact awake6_9 H.toLaw6 rfl) (by exact gx)).2 ?_
      simp (disch := first | (simp only [ne_eq, reduceCtorEq, not_false_eq_true, implies_true, List.getElem?_cons_zero, List.getElem?_cons_succ]; done) | omega) only [WS, St.guard, St.put, evalO, reduceCtorEq, reduceIte, Nat.reduceAdd, Nat.reduceEqDiff, fin_tmp, leave_v]
      simp
    · simp (disch := first | (simp only [ne_eq, reduceCtorEq, not_false_eq_true, implies_true, List.getElem?_cons_zero, List.getElem?_cons_succ]; done) | omega) only [WS, St.guard, St.put, evalO, reduceCtorEq, reduceIte, Nat.reduceAdd, Nat.reduceEqDiff, q1, q2, q3, decide_true, decide_false]
      refine (WP_p (x := .bool true) (by exact awake6_9 H.toLaw6 rfl) (by exact gx)).2 ?_
      simp (disch := first | (simp only [ne_eq, reduceCtorEq, not_false_eq_true, implies_true, List.getElem?_cons_zero, List.getElem?_cons_succ]; done) | omega) only [WS, St.guard, St.put, evalO, reduceCtorEq, reduceIte, Nat.reduceAdd, Nat.reduceEqDiff, Int.reduceBEq]
      refine (WP_p (x := .bool false) (by exact Down_nil L) (by exact gx)).2 ?_
      simp (disch := first | (simp only [ne_eq, reduceCtorEq, not_false_eq_true, implies_true, List.getElem?_cons_zero, List.getElem?_cons_succ]; done) | omega) only [WS, St.guard, St.put, evalO, reduceCtorEq, reduceIte, Nat.reduceAdd, Nat.reduceEqDiff]
      refine (WP_p (x := .int .i64 0) (by exact Len_nil L) (by exact gx)).2 ?_
      simp (disch := first | (simp only [ne_eq, reduceCtorEq, not_false_eq_true, implies_true, List.getElem?_cons_zero, List.getElem?_cons_succ]; done) | omega) only [WS, St.guard, St.put, evalO, reduceCtorEq, reduceIte, Nat.reduceAdd, Nat.reduceEqDiff, Int.reduceBEq]
      refine WP_of (op_none (by exact Fork_nil H.fork) (by decide) rfl (by exact gx)) ?_
      simp (disch := first | (simp only [ne_eq, reduceCtorEq, not_false_eq_true, implies_true, List.getElem?_cons_zero, List.getElem?_cons_succ]; done) | omega) only [WS, St.guard, St.put, evalO, reduceCtorEq, reduceIte, Nat.reduceAdd, Nat.reduceEqDiff, Int.reduceBEq, isNilV, Hp.isNil]
      have hok : (⟨3, 2, 1, 4, some N, some N, some N, false, false, false⟩ : DPos).Ok ([some (dBlk (zs64.map byteAV) false false), none, none, none, none, none, none, none, none] : List (Option Blk)).length N :=
        ⟨show 3 < 4 by omega, show 2 < 4 by omega, show 1 < 4 by omega, show 4 < 9 by omega, show 3 ≠ 2 by omega, show 3 ≠ 1 by omega, show 2 ≠ 1 by omega, fun x h => by cases h; exact Nat.le_refl _, fun x h => by cases h; exact Nat.le_refl _, fun x h => by cases h; exact Nat.le_refl _⟩
      refine (WP_p (x := .int .i64 ((newD N).b.length : Nat)) (by exact Len_spec L (D := newD N) hok) (by exact gx)).2 ?_
      have eN : (((newD N).b.length : Nat) : Int) = (N : Int) := by simp [newD]
      rw [eN]
      simp (disch := first | (simp only [ne_eq, reduceCtorEq, not_false_eq_true, implies_true, List.getElem?_cons_zero, List.getElem?_cons_succ]; done) | omega) only [WS, St.guard, St.put, evalO, reduceCtorEq, reduceIte, Nat.reduceAdd, Nat.reduceEqDiff, fin_tmp, leave_v]
      simp
end Go.AM
