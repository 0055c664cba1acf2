/- The texts Lob, Lix in one file. -/
import Derived.Test.YtfongpdeflfioaaGreatS26
import Derived.Test.YtfongpdeflfioaaGreatS12
import Derived.Test.YtfongpdeflfioaaGreatS2
/- scrub's object: an object's pages, looked through. -/
namespace Go.Proofs.YtfongpdeflfioaaGreat
open Go.RowKit Go.Maps Go.Sort Go.Shelf
set_option linter.unusedVariables false
set_option linter.unusedSimpArgs false
attribute [local go_sem] Oper.semAt_some
def nt (p : Int × List Int) (at_ : Int) (ok : Bool) : Int × List Int := if ok = true then (p.1 + 1, p.2) else (p.1, p.2 ++ [at_])
theorem note_any {w0 w : World} {its : List It} (H : Heap w0 its w) (kb : Nat) (s0 s1 s2 s3 s4 s5 s6 : Value) (p : Int × List Int) (bv : Value) (st fr at_ : Int) (ok : Bool) (i j : Nat) (hij : i ≠ j) (hi : its[i]? = some (KB kb s0 s1 s2 s3 s4 s5 s6 p.1 bv st fr)) (hj : its[j]? = some (.row 3 1 bv p.2.length (ints p.2)))
    (h0 : 0 ≤ p.1) (h1 : p.1 ≤ 1000000000) (hn : p.2.length ≤ 100000000) :
    Calls Tryz.prog 77 #[.pointer (some ⟨kb, 0, none⟩), .int .i64 at_, .bool ok] w fun e w' => (∃ v, e = .returned v) ∧ ∃ bv', Heap w0 ((its.set j (.row 3 1 bv' (nt p at_ ok).2.length (ints (nt p at_ ok).2))).set i (KB kb s0 s1 s2 s3 s4 s5 s6 (nt p at_ ok).1 bv' st fr)) w' := by
  cases ok with
  | true =>
    refine (note_ok H kb s0 s1 s2 s3 s4 s5 s6 p.1 bv st fr at_ i hi h0 h1).mono ?_
    rintro e w' ⟨hv, h⟩
    refine ⟨hv, bv, ?_⟩
    have hs : its.set j (.row 3 1 bv p.2.length (ints p.2)) = its := by
      obtain ⟨hlt, he⟩ := List.getElem?_eq_some_iff.1 hj
      rw [← he]
      exact List.set_getElem_self hlt
    show Heap w0 ((its.set j (.row 3 1 bv p.2.length (ints p.2))).set i _) w'
    rw [hs]
    exact h
  | false =>
    refine (note_bad H kb s0 s1 s2 s3 s4 s5 s6 p.1 bv st fr at_ p.2.length p.2 i j hij hi hj hn).mono ?_
    rintro e w' ⟨hv, bv', h⟩
    refine ⟨hv, bv', ?_⟩
    show Heap w0 ((its.set j (.row 3 1 bv' (p.2 ++ [at_]).length (ints (p.2 ++ [at_])))).set i _) w'
    rw [List.length_append]
    exact h
theorem nt_sum (p : Int × List Int) (at_ : Int) (ok : Bool) : (nt p at_ ok).1 + (nt p at_ ok).2.length = p.1 + p.2.length + 1 := by
  unfold nt
  split
  · show p.1 + 1 + (p.2.length : Int) = _; omega
  · show p.1 + ((p.2 ++ [at_]).length : Int) = _; rw [List.length_append]; simp; omega
theorem nt_nn (p : Int × List Int) (at_ : Int) (ok : Bool) (h : 0 ≤ p.1) : 0 ≤ (nt p at_ ok).1 := by
  unfold nt
  split
  · show 0 ≤ p.1 + 1; omega
  · exact h
def secB (secs : Sl Oct) (y : Int) : List UInt8 := (secs.xs.getD y.toNat ⟨none, 0, 0, []⟩).xs
def okS (s part : List UInt8) : Bool := dcOk s && decide (dcX s = 0) && decide (dcD s = part)
def lkStep (secs : Sl Oct) (x : Ob) (p : Int × List Int) (k : Nat) : Int × List Int := nt p (x.locs.xs.getD k 0) (okS (secB secs (x.locs.xs.getD k 0)) (partO x.data.xs k))
def lkO (secs : Sl Oct) (x : Ob) (m : Nat) (p : Int × List Int) : Int × List Int := (List.range m).foldl (lkStep secs x) p
theorem lkO_succ (secs : Sl Oct) (x : Ob) (m : Nat) (p : Int × List Int) : lkO secs x (m + 1) p = lkStep secs x (lkO secs x m p) m := by simp [lkO, List.range_succ]
theorem lkO_sum (secs : Sl Oct) (x : Ob) (p : Int × List Int) : ∀ m, (lkO secs x m p).1 + (lkO secs x m p).2.length = p.1 + p.2.length + m
  | 0 => by simp [lkO]
  | m + 1 => by rw [lkO_succ, lkStep, nt_sum, lkO_sum secs x p m]; push_cast; omega
theorem lkO_nn (secs : Sl Oct) (x : Ob) (p : Int × List Int) (h : 0 ≤ p.1) : ∀ m, 0 ≤ (lkO secs x m p).1
  | 0 => h
  | m + 1 => by rw [lkO_succ, lkStep]; exact nt_nn _ _ _ (lkO_nn secs x p h m)
def itsP (its : List It) (i j : Nat) (kb : Nat) (s0 s1 s2 s3 s4 s5 s6 st fr : Value) (p : Int × List Int) (bv : Value) : List It :=
  (its.set j (.row 3 1 bv p.2.length (ints p.2))).set i (.box kb [s0, s1, s2, s3, s4, s5, s6, .int .i64 p.1, bv, st, fr])
theorem itsP_i {its : List It} {i j kb : Nat} {s0 s1 s2 s3 s4 s5 s6 st fr : Value} {p : Int × List Int} {bv : Value} (hi : i < its.length) :
    (itsP its i j kb s0 s1 s2 s3 s4 s5 s6 st fr p bv)[i]? = some (.box kb [s0, s1, s2, s3, s4, s5, s6, .int .i64 p.1, bv, st, fr]) := by
  rw [itsP, List.getElem?_set_self (by simpa using hi)]
theorem itsP_j {its : List It} {i j kb : Nat} {s0 s1 s2 s3 s4 s5 s6 st fr : Value} {p : Int × List Int} {bv : Value} (hij : i ≠ j) (hj : j < its.length) :
    (itsP its i j kb s0 s1 s2 s3 s4 s5 s6 st fr p bv)[j]? = some (.row 3 1 bv p.2.length (ints p.2)) := by
  rw [itsP, List.getElem?_set_ne hij, List.getElem?_set_self hj]
theorem itsP_set {its : List It} {i j kb : Nat} {s0 s1 s2 s3 s4 s5 s6 st fr : Value} {p q : Int × List Int} {bv bv' : Value} (hij : i ≠ j) :
    (((itsP its i j kb s0 s1 s2 s3 s4 s5 s6 st fr p bv).set j (.row 3 1 bv' q.2.length (ints q.2))).set i (.box kb [s0, s1, s2, s3, s4, s5, s6, .int .i64 q.1, bv', st, fr])) = itsP its i j kb s0 s1 s2 s3 s4 s5 s6 st fr q bv' := by
  rw [itsP, itsP, List.set_comm _ _ hij, List.set_set, List.set_set]
set_option maxRecDepth 100000 in
set_option maxHeartbeats 8000000 in
theorem lobj_any {w0 w : World} {its : List It} (kb : Nat) (s1 s2 s3 s4 s5 s6 : Value) (st fr : Int) (p : Int × List Int) (bv : Value) (i j : Nat) (hij : i ≠ j) (hil : i < its.length) (hjl : j < its.length)
    (secs : Sl Oct) (x : Ob) (H : Heap w0 (itsP its i j kb secs.val s1 s2 s3 s4 s5 s6 (.int .i64 st) (.int .i64 fr) p bv) w)
    (hS : Sl.At w0 0 w0.heap.size octv (Oct.At w0 0 w0.heap.size) secs) (hx : Ob.At w0 0 w0.heap.size x) (hc : x.locs.n = cntP x.data.n) (hd : x.data.n ≤ 65536) (hy : ∀ y ∈ x.locs.xs, 0 ≤ y ∧ y < (secs.n : Int)) (hsn : secs.n ≤ 8192)
    (h0 : 0 ≤ p.1) (h1 : p.1 + p.2.length ≤ 90000000) :
    Calls Tryz.prog 34 #[.pointer (some ⟨kb, 0, none⟩), .agg x.cells.toArray] w fun e w' => (∃ v, e = .returned v) ∧ ∃ bv', Heap w0 (itsP its i j kb secs.val s1 s2 s3 s4 s5 s6 (.int .i64 st) (.int .i64 fr) (lkO secs x (cntP x.data.n) p) bv') w' := by
  have hcp : cntP x.data.n ≤ 1261 := by unfold cntP; omega
  have HX := Lib.hid hx
  have HS := Lib.hid hS
  have HY := Lib.hid hy
  have HC := Lib.hid hc
  have HIJ := Lib.hid hij
  obtain ⟨key, ⟨dA, dn, dc, dx⟩, ⟨lA, ln, lc, lx⟩⟩ := x
  obtain ⟨sA, sn, sc, sx⟩ := secs
  have HDn := Lib.hid (show dn = dx.length from HX.out.data.len)
  have HLn := Lib.hid (show ln = lx.length from HX.out.locs.len)
  have HSn := Lib.hid (show sn = sx.length from HS.out.len)
  simp only [Ob.cells, Sl.val] at *
  have HH := Lib.hid H
  clear H hx hS hy hc hij
  refine (callsIn_wide (n := 1)).1 (callsIn_of_wp_marks Tryz.func34 rfl trivial ?_ rfl)
  simp only [Tryz.ntmps34, List.size_toArray, List.length_cons, List.length_nil, Nat.reduceAdd, Nat.reduceSub, Array.replicate_succ, Array.replicate_zero, List.push_toArray, List.append_toArray, List.nil_append, List.cons_append]
  refine wpIn_wide.2 ?_
  go_upto_region 2 with fail
  generalize hwH : World.alloc (World.alloc (World.alloc w _) _) _ = w1
  have HH2 := Lib.hid (((HH.out.alloc _ _).alloc _ _).allocE hwH)
  clear HH hwH
  have HH := HH2
  clear HH2
  simp only [World.size_alloc] at HH
  obtain ⟨b2, hb2⟩ : ∃ b, b = w.heap.size := ⟨_, rfl⟩
  obtain ⟨b3, hb3⟩ : ∃ b, b = w.heap.size + 1 := ⟨_, rfl⟩
  obtain ⟨b4, hb4⟩ : ∃ b, b = w.heap.size + 1 + 1 := ⟨_, rfl⟩
  rw [← hb4, ← hb3, ← hb2] at HH ⊢
  clear hb2 hb3 hb4
  go_wp2_with (first | (refine shl_load1 HH.out rfl rfl rfl 1 rfl rfl (by decide +kernel) ?_))
  refine (chunk_any _ dA dn dc 52 (by decide) (by decide)).mono ?_
  rintro e w2 ⟨rfl, rfl⟩
  generalize hwH : World.alloc (World.alloc w1 _) _ = w2
  have HH2 := Lib.hid ((HH.out.alloc _ _).allocE hwH)
  clear HH hwH
  have HH := HH2
  clear HH2
  simp only [World.size_alloc] at HH
  obtain ⟨bs, hbs⟩ : ∃ b, b = w1.heap.size := ⟨_, rfl⟩
  obtain ⟨bm, hbm⟩ : ∃ b, b = w1.heap.size + 1 := ⟨_, rfl⟩
  rw [← hbm, ← hbs] at HH ⊢
  clear hbs hbm
  go_wp2_with fail
  refine rangeH (P := Tryz.prog) (α := Nat) (N := chN 52 dn) (w0 := w0) (gf := 112) (lb := #[.pointer (some ⟨bs, 0, none⟩), .pointer (some ⟨bm, 0, none⟩)]) (encs := fun k => #[chV dA 52 dn k]) (ok := fun pre k => k = pre.length) (S := fun xs => xs = List.range (chN 52 dn))
    (fun pre L => ∃ bv, L = .box bm [.int .i64 52] :: .box bs [.slice dA dn dc] :: .box b4 [.int .i64 (pre.length : Int)] :: .box b3 [.string key, .slice dA dn dc, .slice lA ln lc] :: .box b2 [.pointer (some ⟨kb, 0, none⟩)] :: itsP its i j kb (.slice sA sn sc) s1 s2 s3 s4 s5 s6 (.int .i64 st) (.int .i64 fr) (lkO ⟨sA, sn, sc, sx⟩ ⟨key, ⟨dA, dn, dc, dx⟩, ⟨lA, ln, lc, lx⟩⟩ pre.length p) bv) false rfl
    (enters_of Tryz.func112 (by kernel_rfl) rfl) (fun _ => rfl) (fun h => by cases h) (chunk_seq (by decide) (by decide) (by omega) HX.out.data.le ?cells) ⟨bv, rfl⟩ HH.out ?a1 ?assign ?body ?done
  case cells =>
    rintro pre L ⟨bv, rfl⟩ W x y HW
    exact ⟨(HW.boxAt 3 rfl).cell 0 _ rfl, (HW.boxAt 2 rfl).cell 0 _ rfl⟩
  case assign =>
    intro l k W K hK
    simp only [chV]
    gi_wp2
    exact hK
  case body =>
    clear HH
    rintro l pre k y1 y2 y3 L W hlen hk ⟨bv, rfl⟩ H
    have HK1 := Lib.hid (show (pre ++ [k]).length = k + 1 by simp [hk])
    rw [← hk] at hlen H
    clear hk
    have hk52 := (chN_lt (m := 52) (n := dn) (k := k) (by decide)).1 hlen
    have hkl : k < lx.length := by rw [← HLn.out, HC.out]; unfold cntP; omega
    have hkn : k < ln := by rw [HLn.out]; exact hkl
    obtain ⟨lb, lo, rfl, hlb, f0⟩ := rd_int2 HX.out.locs.rdi hkl
    have hy := HY.out _ (List.getElem_mem hkl)
    have HG := Lib.hid (show lx.getD k 0 = lx[k] by simp [List.getD, hkl])
    generalize lx[k] = y at *
    obtain ⟨q, rfl⟩ : ∃ q : Nat, y = (q : Int) := ⟨y.toNat, by omega⟩
    have hq : q < sx.length := by rw [← HSn.out]; omega
    have hqn : (q : Int) < (sn : Int) := hy.2
    obtain ⟨sb, so, rfl, _, hsb, G⟩ := rd_flat (size := 1) (fun _ => rfl) (by omega) HS.out.rd hq
    have HSO := Lib.hid (HS.out.all _ (List.getElem_mem hq))
    have HSB := Lib.hid (show secB ⟨some ⟨sb, so, none⟩, sn, sc, sx⟩ (q : Int) = (sx[q]).xs by simp [secB, List.getD, hq])
    have g0 := G 0 _ rfl
    simp only [Nat.mul_one, Nat.add_zero] at g0
    clear G hy
    generalize sx[q] = se at *
    obtain ⟨eA, en, ec, ex⟩ := se
    have hpart : Rd w0 0 w0.heap.size (dA.map (·.add (k * 52))) (bytes (partO dx k)) := by
      rw [partO, ← bytes_take, ← bytes_drop]
      exact ((HX.out.data.rdb).drop _).take _
    have HPt := Lib.hid hpart
    have HPl := Lib.hid (show min 52 (dn - k * 52) = (partO dx k).length by rw [partO, List.length_take, List.length_drop, ← HDn.out])
    have HStep := Lib.hid (show lkStep ⟨some ⟨sb, so, none⟩, sn, sc, sx⟩ ⟨key, ⟨dA, dn, dc, dx⟩, ⟨some ⟨lb, lo, none⟩, ln, lc, lx⟩⟩ (lkO ⟨some ⟨sb, so, none⟩, sn, sc, sx⟩ ⟨key, ⟨dA, dn, dc, dx⟩, ⟨some ⟨lb, lo, none⟩, ln, lc, lx⟩⟩ k p) k = nt (lkO ⟨some ⟨sb, so, none⟩, sn, sc, sx⟩ ⟨key, ⟨dA, dn, dc, dx⟩, ⟨some ⟨lb, lo, none⟩, ln, lc, lx⟩⟩ k p) (q : Int) (okS ex (partO dx k)) by
      show nt _ (lx.getD k 0) (okS (secB ⟨some ⟨sb, so, none⟩, sn, sc, sx⟩ (lx.getD k 0)) (partO dx k)) = _
      rw [HG.out, HSB.out])
    have hsum := lkO_sum ⟨some ⟨sb, so, none⟩, sn, sc, sx⟩ ⟨key, ⟨dA, dn, dc, dx⟩, ⟨some ⟨lb, lo, none⟩, ln, lc, lx⟩⟩ p k
    have hnn := lkO_nn ⟨some ⟨sb, so, none⟩, sn, sc, sx⟩ ⟨key, ⟨dA, dn, dc, dx⟩, ⟨some ⟨lb, lo, none⟩, ln, lc, lx⟩⟩ p h0 k
    have hkc : k ≤ 1261 := by have := chN_lt (m := 52) (n := dn) (k := k) (by decide); omega
    rw [← lkO_succ] at HStep
    generalize lkO ⟨some ⟨sb, so, none⟩, sn, sc, sx⟩ ⟨key, ⟨dA, dn, dc, dx⟩, ⟨some ⟨lb, lo, none⟩, ln, lc, lx⟩⟩ k p = pk at *
    have HH := Lib.hid H
    clear H hpart
    simp only [Sl.val] at g0
    obtain ⟨LL, hLL⟩ : ∃ LL, LL = (y1 :: y2 :: y3 :: It.box bm [.int .i64 52] :: .box bs [.slice dA dn dc] :: .box b4 [.int .i64 (k : Int)] :: .box b3 [.string key, .slice dA dn dc, .slice (some ⟨lb, lo, none⟩) ln lc] :: .box b2 [.pointer (some ⟨kb, 0, none⟩)] :: itsP its i j kb (.slice (some ⟨sb, so, none⟩) sn sc) s1 s2 s3 s4 s5 s6 (.int .i64 st) (.int .i64 fr) pk bv) := ⟨_, rfl⟩
    have HIl := Lib.hid (show LL[i + 8]? = some (.box kb [.slice (some ⟨sb, so, none⟩) sn sc, s1, s2, s3, s4, s5, s6, .int .i64 pk.1, bv, .int .i64 st, .int .i64 fr]) by rw [hLL]; exact itsP_i hil)
    have HJl := Lib.hid (show LL[j + 8]? = some (.row 3 1 bv pk.2.length (ints pk.2)) by rw [hLL]; exact itsP_j HIJ.out hjl)
    have F10 : ∀ W', Heap w0 LL W' → W'.cell? ⟨lb, lo + k, none⟩ = some (.int .i64 (q : Int)) := fun W' h => (Below.cell h.ext hlb).trans f0
    have F12 : ∀ W', Heap w0 LL W' → W'.cell? ⟨sb, so + q, none⟩ = some (.slice eA en ec) := fun W' h => (Below.cell h.ext hsb).trans g0
    have L7 : LL[7]? = some (.box b2 [.pointer (some ⟨kb, 0, none⟩)]) := by rw [hLL]; rfl
    have L6 : LL[6]? = some (.box b3 [.string key, .slice dA dn dc, .slice (some ⟨lb, lo, none⟩) ln lc]) := by rw [hLL]; rfl
    have L5 : LL[5]? = some (.box b4 [.int .i64 (k : Int)]) := by rw [hLL]; rfl
    rw [← hLL] at HH
    have HLL := Lib.hid hLL
    clear hLL f0 g0
    refine wpIn_block ?_
    refine wpIn_seq ?_
    have HHd := Lib.hid HH.out.drew
    clear HH
    refine heldIn (S := Heap w0 LL) (by rintro ⟨_, _, h⟩; cases h.1) rfl (by kernel_rfl) HHd.out (fun hHeld => ?_)
    generalize World.drew W = wd at *
    refine tG 0 rfl (fun wT hST => sh_run_load1 hST rfl rfl (7) (L7) rfl (by kernel_rfl)) hHeld ?_; (try simp only [Act.put, lyA, lyB, lyC])
    refine tS 1 ?_; (try simp only [Act.put, lyA, lyB, lyC])
    refine tS 2 ?_; (try simp only [Act.put, lyA, lyB, lyC])
    refine tS 3 ?_; (try simp only [Act.put, lyA, lyB, lyC])
    refine tS 4 ?_; (try simp only [Act.put, lyA, lyB, lyC])
    refine tG 5 rfl (fun wT hST => sh_run_load1 hST rfl rfl (i + 8) (HIl.out) rfl (by kernel_rfl)) hHeld ?_; (try simp only [Act.put, lyA, lyB, lyC])
    refine tS 6 ?_; (try simp only [Act.put, lyA, lyB, lyC])
    refine tG 7 rfl (fun wT hST => sh_run_load1 hST rfl rfl (6) (L6) rfl (by kernel_rfl)) hHeld ?_; (try simp only [Act.put, lyA, lyB, lyC])
    refine tG 8 rfl (fun wT hST => sh_run_load1 hST rfl rfl (5) (L5) rfl (by kernel_rfl)) hHeld ?_; (try simp only [Act.put, lyA, lyB, lyC])
    refine tS 9 ?_; (try simp only [Act.put, lyA, lyB, lyC])
    refine tS 10 ?_; (try simp only [Act.put, lyA, lyB, lyC])
    refine tS 11 ?_; (try simp only [Act.put, lyA, lyB, lyC])
    refine tS 12 ?_; (try simp only [Act.put, lyA, lyB, lyC])
    refine oS 13 (fun K hK => ?_)
    go_simp
    refine (pgdec_any wd eA en ec ex HSO.out.len (HHd.out.old HSO.out.rdb) HSO.out.le HSO.out.cap).mono ?_
    rintro e w3 ⟨v3, n3, he, hr3, e3⟩
    generalize hnx : (if dcOk ex = true then (dcX ex : Int) else 0) = nx at he
    generalize hne : (if dcOk ex = true then (0 : Int) else 21) = ne at he
    generalize hnd : (if dcOk ex = true then dcD ex else []) = nd at hr3
    subst he
    obtain ⟨A3, c3, rfl, _, _, _⟩ := own_form hr3
    have HV3 := Lib.hid hr3
    have HNX := Lib.hid hnx
    have HNE := Lib.hid hne
    have HND := Lib.hid hnd
    have HH3 := Lib.hid (HHd.out.later e3)
    clear HHd e3 hr3 hnx hne hnd
    go_wp2_with fail
    refine hK.out _ _ HH3.out (fun hHeld => ?_)
    clear hK K
    (try simp only [Act.put, lyA, lyB, lyC])
    refine tS 14 ?_; (try simp only [Act.put, lyA, lyB, lyC])
    refine tS 15 ?_; (try simp only [Act.put, lyA, lyB, lyC])
    refine tS 18 ?_; (try simp only [Act.put, lyA, lyB, lyC])
    refine tS 16 ?_; (try simp only [Act.put, lyA, lyB, lyC])
    refine tS 19 ?_; (try simp only [Act.put, lyA, lyB, lyC])
    refine tS 17 ?_; (try simp only [Act.put, lyA, lyB, lyC])
    refine tS 20 ?_; (try simp only [Act.put, lyA, lyB, lyC])
    refine wpAnyH_done (by kernel_rfl) ?_ _
    (try simp only [Exit.then])
    refine wpIn_seq ?_
    have HHd := Lib.hid HH3.out.drew
    clear HH3
    have HV4 := Lib.hid (show (World.drew w3).ownsRow wd.heap.size 5 1 (.slice A3 n3 c3) n3 (bytes nd) from HV3.out)
    clear HV3
    refine rgnMIn (fun z => Nat.blt z 18) (S := Heap w0 LL) (by rintro ⟨_, _, h⟩; cases h.1) rfl (by kernel_rfl) HHd.out (fun hHeld => ?_)
    generalize World.drew w3 = wf at *
    refine mG 0 rfl (fun wT hST => sh_run_load1 hST rfl rfl 7 L7 rfl (by kernel_rfl)) hHeld ?_
    (try simp only [Act.put, lyA, lyB, lyC])
    refine mS 1 ?_; (try simp only [Act.put, lyA, lyB, lyC])
    refine mG 2 rfl (fun wT hST => sh_run_load1 hST rfl rfl 6 L6 rfl (by kernel_rfl)) hHeld ?_
    (try simp only [Act.put, lyA, lyB, lyC])
    refine mG 3 rfl (fun wT hST => sh_run_load1 hST rfl rfl 5 L5 rfl (by kernel_rfl)) hHeld ?_
    (try simp only [Act.put, lyA, lyB, lyC])
    refine mS 4 ?_; (try simp only [Act.put, lyA, lyB, lyC])
    refine mS 5 ?_; (try simp only [Act.put, lyA, lyB, lyC])
    refine mS 6 ?_; (try simp only [Act.put, lyA, lyB, lyC])
    cases hOk : dcOk ex
    · have HB := Lib.hid (show okS ex (partO dx k) = false by rw [okS, hOk]; rfl)
      rw [hOk] at HNE
      obtain rfl : ne = 21 := HNE.out.symm
      refine mS 7 ?_; (try simp only [Act.put, lyA, lyB, lyC])
      refine mS 8 ?_; (try simp only [Act.put, lyA, lyB, lyC])
      refine mN 9 ?_; (try simp only [Act.put, lyA, lyB, lyC])
      refine mN 10 ?_; (try simp only [Act.put, lyA, lyB, lyC])
      refine mS 11 ?_; (try simp only [Act.put, lyA, lyB, lyC])
      refine mS 12 ?_; (try simp only [Act.put, lyA, lyB, lyC])
      refine mN 13 ?_; (try simp only [Act.put, lyA, lyB, lyC])
      refine mN 14 ?_; (try simp only [Act.put, lyA, lyB, lyC])
      refine mN 15 ?_; (try simp only [Act.put, lyA, lyB, lyC])
      refine mS 16 ?_; (try simp only [Act.put, lyA, lyB, lyC])
      have HHN := HHd
      refine freeM 17 rfl (by kernel_rfl) (by kernel_rfl) (by kernel_rfl) (fun K hK => ?_); go_simp; refine (note_any HHN.out kb _ s1 s2 s3 s4 s5 s6 pk bv st fr (q : Int) false (i + 8) (j + 8) (fun h => HIJ.out (by omega)) HIl.out HJl.out hnn (by omega) (by omega)).mono ?_; rintro e w9 ⟨⟨v, rfl⟩, bv', h9⟩; have HH9 := Lib.hid (show Heap w0 (y1 :: y2 :: y3 :: It.box bm [.int .i64 52] :: .box bs [.slice dA dn dc] :: .box b4 [.int .i64 (k : Int)] :: .box b3 [.string key, .slice dA dn dc, .slice (some ⟨lb, lo, none⟩) ln lc] :: .box b2 [.pointer (some ⟨kb, 0, none⟩)] :: itsP its i j kb (.slice (some ⟨sb, so, none⟩) sn sc) s1 s2 s3 s4 s5 s6 (.int .i64 st) (.int .i64 fr) (nt pk (q : Int) false) bv') w9 by rw [← itsP_set (p := pk) (bv := bv) HIJ.out]; have h := h9; rw [HLL.out] at h; exact h); clear h9 HHN HHd; go_wp2_with fail; refine hK.out _ _ ?_; clear hK K; (try simp only [Act.put, lyA, lyB, lyC]); refine doneM (by kernel_rfl) ?_; clear hHeld; (try simp only [Exit.then]); refine regionIn (by rintro ⟨_, _, h⟩; cases h.1) rfl ?_; have HH := HH9; clear HH9; go_wp2_with (first | (refine shl_load1 HH.out rfl rfl rfl 5 rfl rfl (by decide +kernel) ?_) | (refine shl_store1 HH.out rfl rfl rfl rfl 5 rfl rfl rfl (by kernel_rfl) ?_; clear HH; intro wS HHS; have HH := Lib.hid HHS; clear HHS)); refine ⟨by first | trivial | rfl, _, ⟨bv', rfl⟩, ?_⟩; rw [HK1.out, HStep.out, HB.out, show ((k + 1 : Nat) : Int) = (k : Int) + 1 from Int.natCast_succ k]; exact HH.out
    · rw [hOk] at HNE HNX HND
      obtain rfl : ne = 0 := HNE.out.symm
      refine mS 7 ?_; (try simp only [Act.put, lyA, lyB, lyC])
      refine mS 8 ?_; (try simp only [Act.put, lyA, lyB, lyC])
      refine mS 9 ?_; (try simp only [Act.put, lyA, lyB, lyC])
      by_cases hx0 : dcX ex = 0
      · have hnx0 : nx = 0 := by rw [← HNX.out, hx0]; rfl
        subst hnx0
        refine mS 10 ?_; (try simp only [Act.put, lyA, lyB, lyC])
        refine mS 11 ?_; (try simp only [Act.put, lyA, lyB, lyC])
        refine mS 12 ?_; (try simp only [Act.put, lyA, lyB, lyC])
        refine mS 13 ?_; (try simp only [Act.put, lyA, lyB, lyC])
        refine mS 14 ?_; (try simp only [Act.put, lyA, lyB, lyC])
        refine oneM 15 rfl (by kernel_rfl) (by kernel_rfl) (fun K hK => ?_)
        go_simp
        have hn3 : n3 = nd.length := by have := HV4.out.1; rw [bytes_length, Nat.mul_one] at this; exact this.symm
        refine (bequal_any wf A3 (dA.map (·.add (k * 52))) n3 c3 (min 52 (dn - k * 52)) (min 52 (dn - k * 52)) nd (partO dx k) hn3 HPl.out ((Rd.of_own HV4.out).m0) (HHd.out.old HPt.out)).mono ?_
        rintro e w5 ⟨rfl, e5⟩
        have HHN := Lib.hid (HHd.out.later e5)
        have HB := Lib.hid (show okS ex (partO dx k) = decide (nd = partO dx k) by rw [okS, hOk, hx0, ← HND.out]; simp)
        generalize decide (nd = partO dx k) = BB at *
        clear e5 hn3
        go_wp2_with fail
        refine hK.out _ _ HHN.out (fun hHeld => ?_)
        clear hK K
        (try simp only [Act.put, lyA, lyB, lyC])
        refine mS 16 ?_; (try simp only [Act.put, lyA, lyB, lyC])
        refine freeM 17 rfl (by kernel_rfl) (by kernel_rfl) (by kernel_rfl) (fun K hK => ?_); go_simp; refine (note_any HHN.out kb _ s1 s2 s3 s4 s5 s6 pk bv st fr (q : Int) BB (i + 8) (j + 8) (fun h => HIJ.out (by omega)) HIl.out HJl.out hnn (by omega) (by omega)).mono ?_; rintro e w9 ⟨⟨v, rfl⟩, bv', h9⟩; have HH9 := Lib.hid (show Heap w0 (y1 :: y2 :: y3 :: It.box bm [.int .i64 52] :: .box bs [.slice dA dn dc] :: .box b4 [.int .i64 (k : Int)] :: .box b3 [.string key, .slice dA dn dc, .slice (some ⟨lb, lo, none⟩) ln lc] :: .box b2 [.pointer (some ⟨kb, 0, none⟩)] :: itsP its i j kb (.slice (some ⟨sb, so, none⟩) sn sc) s1 s2 s3 s4 s5 s6 (.int .i64 st) (.int .i64 fr) (nt pk (q : Int) BB) bv') w9 by rw [← itsP_set (p := pk) (bv := bv) HIJ.out]; have h := h9; rw [HLL.out] at h; exact h); clear h9 HHN HHd; go_wp2_with fail; refine hK.out _ _ ?_; clear hK K; (try simp only [Act.put, lyA, lyB, lyC]); refine doneM (by kernel_rfl) ?_; clear hHeld; (try simp only [Exit.then]); refine regionIn (by rintro ⟨_, _, h⟩; cases h.1) rfl ?_; have HH := HH9; clear HH9; go_wp2_with (first | (refine shl_load1 HH.out rfl rfl rfl 5 rfl rfl (by decide +kernel) ?_) | (refine shl_store1 HH.out rfl rfl rfl rfl 5 rfl rfl rfl (by kernel_rfl) ?_; clear HH; intro wS HHS; have HH := Lib.hid HHS; clear HHS)); refine ⟨by first | trivial | rfl, _, ⟨bv', rfl⟩, ?_⟩; rw [HK1.out, HStep.out, HB.out, show ((k + 1 : Nat) : Int) = (k : Int) + 1 from Int.natCast_succ k]; exact HH.out
      · have HB := Lib.hid (show okS ex (partO dx k) = false by rw [okS, hOk]; simp [hx0])
        have hnx0 : ¬ nx = 0 := by rw [← HNX.out]; simp; omega
        have hnx1 : (nx == 0) = false := by simpa using hnx0
        refine mS 10 ?_; (try simp only [Act.put, lyA, lyB, lyC])
        refine mS 11 ?_; (try simp only [Act.put, lyA, lyB, lyC])
        refine mS 12 ?_; (try simp only [Act.put, lyA, lyB, lyC])
        refine mN 13 ?_; (try simp only [Act.put, lyA, lyB, lyC])
        refine mN 14 ?_; (try simp only [Act.put, lyA, lyB, lyC])
        refine mN 15 ?_; (try simp only [Act.put, lyA, lyB, lyC])
        refine mS 16 ?_; (try simp only [Act.put, lyA, lyB, lyC])
        have HHN := HHd
        refine freeM 17 rfl (by kernel_rfl) (by kernel_rfl) (by kernel_rfl) (fun K hK => ?_); go_simp; refine (note_any HHN.out kb _ s1 s2 s3 s4 s5 s6 pk bv st fr (q : Int) false (i + 8) (j + 8) (fun h => HIJ.out (by omega)) HIl.out HJl.out hnn (by omega) (by omega)).mono ?_; rintro e w9 ⟨⟨v, rfl⟩, bv', h9⟩; have HH9 := Lib.hid (show Heap w0 (y1 :: y2 :: y3 :: It.box bm [.int .i64 52] :: .box bs [.slice dA dn dc] :: .box b4 [.int .i64 (k : Int)] :: .box b3 [.string key, .slice dA dn dc, .slice (some ⟨lb, lo, none⟩) ln lc] :: .box b2 [.pointer (some ⟨kb, 0, none⟩)] :: itsP its i j kb (.slice (some ⟨sb, so, none⟩) sn sc) s1 s2 s3 s4 s5 s6 (.int .i64 st) (.int .i64 fr) (nt pk (q : Int) false) bv') w9 by rw [← itsP_set (p := pk) (bv := bv) HIJ.out]; have h := h9; rw [HLL.out] at h; exact h); clear h9 HHN HHd; go_wp2_with fail; refine hK.out _ _ ?_; clear hK K; (try simp only [Act.put, lyA, lyB, lyC]); refine doneM (by kernel_rfl) ?_; clear hHeld; (try simp only [Exit.then]); refine regionIn (by rintro ⟨_, _, h⟩; cases h.1) rfl ?_; have HH := HH9; clear HH9; go_wp2_with (first | (refine shl_load1 HH.out rfl rfl rfl 5 rfl rfl (by decide +kernel) ?_) | (refine shl_store1 HH.out rfl rfl rfl rfl 5 rfl rfl rfl (by kernel_rfl) ?_; clear HH; intro wS HHS; have HH := Lib.hid HHS; clear HHS)); refine ⟨by first | trivial | rfl, _, ⟨bv', rfl⟩, ?_⟩; rw [HK1.out, HStep.out, HB.out, show ((k + 1 : Nat) : Int) = (k : Int) + 1 from Int.natCast_succ k]; exact HH.out
  case done =>
    rintro D y xs L W rfl ⟨bv, rfl⟩ H
    have HH2 := Lib.hid H
    clear HH H
    have HH := HH2
    clear HH2
    have hcn : chN 52 dn = cntP dn := rfl
    rw [List.length_range, hcn] at HH
    (try simp only [Exit.inBlock, Exit.then])
    refine ⟨by simp, .inl ⟨_, _, rfl, run_takeDeferred (HH.out.objAt 1 rfl), ?_⟩⟩
    have H2 := HH.out.putObj 1 rfl (.deferred none)
    exact ⟨_, results_none rfl _ _ _, ⟨_, rfl⟩, bv, H2.tail.tail.tail.tail.tail.tail.tail⟩
end Go.Proofs.YtfongpdeflfioaaGreat
/- scrub's index: the index's pages, looked through. -/
namespace Go.Proofs.YtfongpdeflfioaaGreat
open Go.RowKit Go.Maps Go.Sort Go.Shelf
set_option linter.unusedVariables false
set_option linter.unusedSimpArgs false
def lxStep (secs : Sl Oct) (ix : List Int) (p : Int × List Int) (k : Nat) : Int × List Int := nt p (ix.getD k 0) (dcOk (secB secs (ix.getD k 0)) && decide ((dcX (secB secs (ix.getD k 0)) : Int) = ix.getD (k + 1) 0))
def lkX (secs : Sl Oct) (ix : List Int) (m : Nat) (p : Int × List Int) : Int × List Int := (List.range m).foldl (lxStep secs ix) p
theorem lkX_succ (secs : Sl Oct) (ix : List Int) (m : Nat) (p : Int × List Int) : lkX secs ix (m + 1) p = lxStep secs ix (lkX secs ix m p) m := by simp [lkX, List.range_succ]
theorem lkX_sum (secs : Sl Oct) (ix : List Int) (p : Int × List Int) : ∀ m, (lkX secs ix m p).1 + (lkX secs ix m p).2.length = p.1 + p.2.length + m
  | 0 => by simp [lkX]
  | m + 1 => by rw [lkX_succ, lxStep, nt_sum, lkX_sum secs ix p m]; push_cast; omega
theorem lkX_nn (secs : Sl Oct) (ix : List Int) (p : Int × List Int) (h : 0 ≤ p.1) : ∀ m, 0 ≤ (lkX secs ix m p).1
  | 0 => h
  | m + 1 => by rw [lkX_succ, lxStep]; exact nt_nn _ _ _ (lkX_nn secs ix p h m)
set_option maxRecDepth 100000 in
set_option maxHeartbeats 8000000 in
theorem lidx_any {w0 w : World} {its : List It} (kb : Nat) (s1 s2 s3 s4 s5 : Value) (st fr : Int) (p : Int × List Int) (bv : Value) (i j : Nat) (hij : i ≠ j) (hil : i < its.length) (hjl : j < its.length)
    (secs : Sl Oct) (ix : Loc) (H : Heap w0 (itsP its i j kb secs.val s1 s2 s3 s4 s5 ix.val (.int .i64 st) (.int .i64 fr) p bv) w)
    (hS : Sl.At w0 0 w0.heap.size octv (Oct.At w0 0 w0.heap.size) secs) (hx : Loc.At w0 0 w0.heap.size ix) (hd : ix.n ≤ 10000000) (hy : ∀ y ∈ ix.xs, 0 ≤ y ∧ y < (secs.n : Int)) (hsn : secs.n ≤ 8192)
    (h0 : 0 ≤ p.1) (h1 : p.1 + p.2.length ≤ 80000000) :
    Calls Tryz.prog 35 #[.pointer (some ⟨kb, 0, none⟩)] w fun e w' => (∃ v, e = .returned v) ∧ ∃ bv', Heap w0 (itsP its i j kb secs.val s1 s2 s3 s4 s5 ix.val (.int .i64 st) (.int .i64 fr) (lkX secs ix.xs ix.n p) bv') w' := by
  have HX := Lib.hid hx
  have HS := Lib.hid hS
  have HY := Lib.hid hy
  have HIJ := Lib.hid hij
  obtain ⟨lA, ln, lc, lx⟩ := ix
  obtain ⟨sA, sn, sc, sx⟩ := secs
  have HLn := Lib.hid (show ln = lx.length from HX.out.len)
  have HSn := Lib.hid (show sn = sx.length from HS.out.len)
  simp only [Sl.val] at *
  have HH := Lib.hid H
  have HII := Lib.hid (fun (q : Int × List Int) (b : Value) => itsP_i (its := its) (i := i) (j := j) (kb := kb) (s0 := .slice sA sn sc) (s1 := s1) (s2 := s2) (s3 := s3) (s4 := s4) (s5 := s5) (s6 := .slice lA ln lc) (st := .int .i64 st) (fr := .int .i64 fr) (p := q) (bv := b) hil)
  have HJJ := Lib.hid (fun (q : Int × List Int) (b : Value) => itsP_j (its := its) (i := i) (j := j) (kb := kb) (s0 := .slice sA sn sc) (s1 := s1) (s2 := s2) (s3 := s3) (s4 := s4) (s5 := s5) (s6 := .slice lA ln lc) (st := .int .i64 st) (fr := .int .i64 fr) (p := q) (bv := b) HIJ.out hjl)
  clear H hx hS hy hij
  go_enter Tryz.func35, Tryz.ntmps35
  have L0 := HII.out p bv
  go_wp2_with (first | (refine shl_load1 HH.out rfl rfl rfl (i) (L0) rfl (by decide +kernel) ?_))
  clear L0
  go_loopw [14] (fun v wr => ∃ k : Nat, k ≤ ln ∧ v = .int .i64 (k : Int) ∧ ∃ b, Hid (Heap w0 (itsP its i j kb (.slice sA sn sc) s1 s2 s3 s4 s5 (.slice lA ln lc) (.int .i64 st) (.int .i64 fr) (lkX ⟨sA, sn, sc, sx⟩ lx k p) b) wr)) (fun v _ => ln - (intOf v).toNat)
  case atStart => exact ⟨0, Nat.zero_le _, rfl, bv, HH⟩
  case round =>
    clear HH
    obtain ⟨k, hk, rfl, b, HH⟩ := hrel
    by_cases hlt : k < ln
    · have hkl : k < lx.length := by rw [← HLn.out]; exact hlt
      obtain ⟨lb, lo, rfl, hlb, f0⟩ := rd_int2 HX.out.rdi hkl
      have hy := HY.out _ (List.getElem_mem hkl)
      have HG := Lib.hid (show lx.getD k 0 = lx[k] by simp [List.getD, hkl])
      generalize lx[k] = y at *
      obtain ⟨q, rfl⟩ : ∃ q : Nat, y = (q : Int) := ⟨y.toNat, by omega⟩
      have hq : q < sx.length := by rw [← HSn.out]; omega
      have hqn : (q : Int) < (sn : Int) := hy.2
      obtain ⟨sb, so, rfl, _, hsb, G⟩ := rd_flat (size := 1) (fun _ => rfl) (by omega) HS.out.rd hq
      have HSO := Lib.hid (HS.out.all _ (List.getElem_mem hq))
      have HSB := Lib.hid (show secB ⟨some ⟨sb, so, none⟩, sn, sc, sx⟩ (q : Int) = (sx[q]).xs by simp [secB, List.getD, hq])
      have g0 := G 0 _ rfl
      simp only [Nat.mul_one, Nat.add_zero] at g0
      clear G hy
      generalize sx[q] = se at *
      obtain ⟨eA, en, ec, ex⟩ := se
      simp only [Sl.val] at g0
      have c0 := (Below.cell HH.out.ext hlb).trans f0
      have c1 := (Below.cell HH.out.ext hsb).trans g0
      have hsum := lkX_sum ⟨some ⟨sb, so, none⟩, sn, sc, sx⟩ lx p k
      have hnn := lkX_nn ⟨some ⟨sb, so, none⟩, sn, sc, sx⟩ lx p h0 k
      have HStep := Lib.hid (show lkX ⟨some ⟨sb, so, none⟩, sn, sc, sx⟩ lx (k + 1) p = nt (lkX ⟨some ⟨sb, so, none⟩, sn, sc, sx⟩ lx k p) (q : Int) (dcOk ex && decide ((dcX ex : Int) = lx.getD (k + 1) 0)) by
        rw [lkX_succ, lxStep, HG.out, HSB.out])
      generalize hpk : lkX ⟨some ⟨sb, so, none⟩, sn, sc, sx⟩ lx k p = pk at *
      clear hpk
      have L0 := HII.out pk b
      have L1 := HJJ.out pk b
      by_cases hnx : k + 1 < ln
      · have hkl2 : k + 1 < lx.length := by rw [← HLn.out]; exact hnx
        obtain ⟨lb', lo', hh, _, f2⟩ := rd_int2 HX.out.rdi hkl2
        obtain ⟨rfl, rfl⟩ : lb = lb' ∧ lo = lo' := by simpa using hh
        have HG2 := Lib.hid (show lx.getD (k + 1) 0 = lx[k + 1] by simp [List.getD, hkl2])
        rw [HG2.out] at HStep
        generalize lx[k + 1] = nx at *
        have c2 := (Below.cell HH.out.ext hlb).trans f2
        clear hh
        go_upto_region 6 with (first | (refine shl_load1 HH.out rfl rfl rfl (i) (L0) rfl (by decide +kernel) ?_))
        go_wp2_with (first | (refine shl_load1 HH.out rfl rfl rfl (i) (L0) rfl (by decide +kernel) ?_)); (refine (pgdec_any wr eA en ec ex HSO.out.len (HH.out.old HSO.out.rdb) HSO.out.le HSO.out.cap).mono ?_); rintro e w3 ⟨v3, n3, he, hr3, e3⟩; generalize hnx : (if dcOk ex = true then (dcX ex : Int) else 0) = vx at he; generalize hne : (if dcOk ex = true then (0 : Int) else 21) = ne at he; subst he; have HNX := Lib.hid hnx; have HNE := Lib.hid hne; have HH3 := Lib.hid (HH.out.later e3); clear HH e3 hr3 hnx hne f0 g0 c0 c1; have HH := HH3; clear HH3; go_upto_region 7 with fail
        cases hOk : dcOk ex; (focus (have HB := Lib.hid (show (dcOk ex && decide ((dcX ex : Int) = nx)) = false by rw [hOk]; rfl); rw [hOk] at HNE; obtain rfl : ne = 21 := HNE.out.symm; go_wp2_with fail; refine (note_any HH.out kb _ s1 s2 s3 s4 s5 _ pk b st fr (q : Int) false i j HIJ.out L0 L1 hnn (by omega) (by omega)).mono ?_; rintro e w9 ⟨⟨v, rfl⟩, bv', h9⟩; have HH9 := Lib.hid (show Heap w0 (itsP its i j kb (.slice (some ⟨sb, so, none⟩) sn sc) s1 s2 s3 s4 s5 (.slice (some ⟨lb, lo, none⟩) ln lc) (.int .i64 st) (.int .i64 fr) (nt pk (q : Int) false) bv') w9 by rw [← itsP_set (p := pk) (bv := b) HIJ.out]; exact h9); clear h9 HH; go_wp2_with fail; go_roundw; (case rel => refine ⟨k + 1, by omega, by go_num, bv', ?_⟩; rw [HStep.out, HB.out]; exact HH9); (case measure => simp [intOf]; omega))); rw [hOk] at HNE HNX; obtain rfl : ne = 0 := HNE.out.symm; obtain rfl : vx = (dcX ex : Int) := HNX.out.symm; by_cases hxx : (dcX ex : Int) = nx; (focus (have HB := Lib.hid (show (dcOk ex && decide ((dcX ex : Int) = nx)) = true by rw [hOk, decide_eq_true hxx]; rfl); have hx1 : ((dcX ex : Int) == nx) = true := (by simpa using hxx); generalize (dcX ex : Int) = vx at *; go_wp2_with fail; refine (note_any HH.out kb _ s1 s2 s3 s4 s5 _ pk b st fr (q : Int) true i j HIJ.out L0 L1 hnn (by omega) (by omega)).mono ?_; rintro e w9 ⟨⟨v, rfl⟩, bv', h9⟩; have HH9 := Lib.hid (show Heap w0 (itsP its i j kb (.slice (some ⟨sb, so, none⟩) sn sc) s1 s2 s3 s4 s5 (.slice (some ⟨lb, lo, none⟩) ln lc) (.int .i64 st) (.int .i64 fr) (nt pk (q : Int) true) bv') w9 by rw [← itsP_set (p := pk) (bv := b) HIJ.out]; exact h9); clear h9 HH; go_wp2_with fail; go_roundw; (case rel => refine ⟨k + 1, by omega, by go_num, bv', ?_⟩; rw [HStep.out, HB.out]; exact HH9); (case measure => simp [intOf]; omega))); have HB := Lib.hid (show (dcOk ex && decide ((dcX ex : Int) = nx)) = false by rw [hOk, decide_eq_false hxx]; rfl); have hx1 : ((dcX ex : Int) == nx) = false := (by simpa using hxx); generalize (dcX ex : Int) = vx at *; go_wp2_with fail; refine (note_any HH.out kb _ s1 s2 s3 s4 s5 _ pk b st fr (q : Int) false i j HIJ.out L0 L1 hnn (by omega) (by omega)).mono ?_; rintro e w9 ⟨⟨v, rfl⟩, bv', h9⟩; have HH9 := Lib.hid (show Heap w0 (itsP its i j kb (.slice (some ⟨sb, so, none⟩) sn sc) s1 s2 s3 s4 s5 (.slice (some ⟨lb, lo, none⟩) ln lc) (.int .i64 st) (.int .i64 fr) (nt pk (q : Int) false) bv') w9 by rw [← itsP_set (p := pk) (bv := b) HIJ.out]; exact h9); clear h9 HH; go_wp2_with fail; go_roundw; (case rel => refine ⟨k + 1, by omega, by go_num, bv', ?_⟩; rw [HStep.out, HB.out]; exact HH9); (case measure => simp [intOf]; omega)
      · rw [show lx.getD (k + 1) 0 = 0 by simp [List.getD, show ¬ k + 1 < lx.length by rw [← HLn.out]; exact hnx]] at HStep
        go_upto_region 6 with (first | (refine shl_load1 HH.out rfl rfl rfl (i) (L0) rfl (by decide +kernel) ?_))
        go_wp2_with (first | (refine shl_load1 HH.out rfl rfl rfl (i) (L0) rfl (by decide +kernel) ?_)); (refine (pgdec_any wr eA en ec ex HSO.out.len (HH.out.old HSO.out.rdb) HSO.out.le HSO.out.cap).mono ?_); rintro e w3 ⟨v3, n3, he, hr3, e3⟩; generalize hnx : (if dcOk ex = true then (dcX ex : Int) else 0) = vx at he; generalize hne : (if dcOk ex = true then (0 : Int) else 21) = ne at he; subst he; have HNX := Lib.hid hnx; have HNE := Lib.hid hne; have HH3 := Lib.hid (HH.out.later e3); clear HH e3 hr3 hnx hne f0 g0 c0 c1; have HH := HH3; clear HH3; go_upto_region 7 with fail
        cases hOk : dcOk ex; (focus (have HB := Lib.hid (show (dcOk ex && decide ((dcX ex : Int) = 0)) = false by rw [hOk]; rfl); rw [hOk] at HNE; obtain rfl : ne = 21 := HNE.out.symm; go_wp2_with fail; refine (note_any HH.out kb _ s1 s2 s3 s4 s5 _ pk b st fr (q : Int) false i j HIJ.out L0 L1 hnn (by omega) (by omega)).mono ?_; rintro e w9 ⟨⟨v, rfl⟩, bv', h9⟩; have HH9 := Lib.hid (show Heap w0 (itsP its i j kb (.slice (some ⟨sb, so, none⟩) sn sc) s1 s2 s3 s4 s5 (.slice (some ⟨lb, lo, none⟩) ln lc) (.int .i64 st) (.int .i64 fr) (nt pk (q : Int) false) bv') w9 by rw [← itsP_set (p := pk) (bv := b) HIJ.out]; exact h9); clear h9 HH; go_wp2_with fail; go_roundw; (case rel => refine ⟨k + 1, by omega, by go_num, bv', ?_⟩; rw [HStep.out, HB.out]; exact HH9); (case measure => simp [intOf]; omega))); rw [hOk] at HNE HNX; obtain rfl : ne = 0 := HNE.out.symm; obtain rfl : vx = (dcX ex : Int) := HNX.out.symm; by_cases hxx : (dcX ex : Int) = 0; (focus (have HB := Lib.hid (show (dcOk ex && decide ((dcX ex : Int) = 0)) = true by rw [hOk, decide_eq_true hxx]; rfl); have hx1 : ((dcX ex : Int) == 0) = true := (by simpa using hxx); generalize (dcX ex : Int) = vx at *; go_wp2_with fail; refine (note_any HH.out kb _ s1 s2 s3 s4 s5 _ pk b st fr (q : Int) true i j HIJ.out L0 L1 hnn (by omega) (by omega)).mono ?_; rintro e w9 ⟨⟨v, rfl⟩, bv', h9⟩; have HH9 := Lib.hid (show Heap w0 (itsP its i j kb (.slice (some ⟨sb, so, none⟩) sn sc) s1 s2 s3 s4 s5 (.slice (some ⟨lb, lo, none⟩) ln lc) (.int .i64 st) (.int .i64 fr) (nt pk (q : Int) true) bv') w9 by rw [← itsP_set (p := pk) (bv := b) HIJ.out]; exact h9); clear h9 HH; go_wp2_with fail; go_roundw; (case rel => refine ⟨k + 1, by omega, by go_num, bv', ?_⟩; rw [HStep.out, HB.out]; exact HH9); (case measure => simp [intOf]; omega))); have HB := Lib.hid (show (dcOk ex && decide ((dcX ex : Int) = 0)) = false by rw [hOk, decide_eq_false hxx]; rfl); have hx1 : ((dcX ex : Int) == 0) = false := (by simpa using hxx); generalize (dcX ex : Int) = vx at *; go_wp2_with fail; refine (note_any HH.out kb _ s1 s2 s3 s4 s5 _ pk b st fr (q : Int) false i j HIJ.out L0 L1 hnn (by omega) (by omega)).mono ?_; rintro e w9 ⟨⟨v, rfl⟩, bv', h9⟩; have HH9 := Lib.hid (show Heap w0 (itsP its i j kb (.slice (some ⟨sb, so, none⟩) sn sc) s1 s2 s3 s4 s5 (.slice (some ⟨lb, lo, none⟩) ln lc) (.int .i64 st) (.int .i64 fr) (nt pk (q : Int) false) bv') w9 by rw [← itsP_set (p := pk) (bv := b) HIJ.out]; exact h9); clear h9 HH; go_wp2_with fail; go_roundw; (case rel => refine ⟨k + 1, by omega, by go_num, bv', ?_⟩; rw [HStep.out, HB.out]; exact HH9); (case measure => simp [intOf]; omega)
    · obtain rfl : k = ln := by omega
      go_wp2_with fail
      go_end0
      exact ⟨⟨_, rfl⟩, b, HH.out⟩
end Go.Proofs.YtfongpdeflfioaaGreat
