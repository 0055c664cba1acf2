/- The texts Opn in one file. -/
import Derived.Test.YtfongpdeflfioaaGreatS21
import Derived.Test.YtfongpdeflfioaaGreatS20
import Derived.Test.YtfongpdeflfioaaGreatS2
/- store.Open of a device that holds a store. -/
namespace Go.Proofs.YtfongpdeflfioaaGreat
open Go.RowKit Go.Maps Go.Sort Go.Shelf
set_option linter.unusedVariables false
set_option linter.unusedSimpArgs false
attribute [local go_sem] Oper.semAt_some
theorem Heap.rowBag {w0 w : World} {its : List It} {e : TypeId} {size n c j : Nat} {A : Option Addr} {xs : List Value} {S : Nat → Prop} {L : RdL} (H : Heap w0 (.row e size (.slice A n c) n xs :: its) w) (hj : its[j]? = some (It.bag S L)) :
    ∃ S', Heap w0 (its.set j (It.bag S' ((A, xs) :: L))) w := by
  have hT := H.tail
  have hb := hT.all j _ hj
  have hr := H.rowAt 0 rfl
  have hR : Rd w w0.heap.size w.heap.size A xs := Rd.of_own hr
  obtain ⟨hjl, hje⟩ := List.getElem?_eq_some_iff.1 hj
  have hown : ∀ k, (Value.slice A n c).ownBlock = some k → w0.heap.size ≤ k ∧ k < w.heap.size := fun k hk => World.ownsRow.lt hr k hk
  refine ⟨fun k => S k ∨ (Value.slice A n c).ownBlock = some k, H.ext, fun i x hx => ?_, fun i i' x y k hii hx hy hk hat => ?_⟩
  · by_cases hi : i = j
    · subst hi
      rw [List.getElem?_set_self hjl] at hx
      cases hx
      refine ⟨fun k hk => ?_, fun k hk => ?_, fun q hq => ?_⟩
      · rcases hk with hk | hk
        · exact hb.1 k hk
        · exact (hown k hk).1
      · rcases hk with hk | hk
        · exact hb.2.1 k hk
        · exact (hown k hk).2
      · rcases List.mem_cons.1 hq with rfl | hq
        · intro hn
          obtain ⟨b, o, ha, h1, h2, h3⟩ := hR hn
          exact ⟨b, o, ha, h2, .inr (by rw [show A = some ⟨b, o, none⟩ from ha]; rfl), h3⟩
        · intro hn
          obtain ⟨b, o, ha, h1, h2, h3⟩ := hb.2.2 q hq hn
          exact ⟨b, o, ha, h1, .inl h2, h3⟩
    · rw [List.getElem?_set_ne (Ne.symm hi)] at hx
      exact hT.all i x hx
  · by_cases hi : i = j
    · subst hi
      rw [List.getElem?_set_self hjl] at hx
      cases hx
      rw [List.getElem?_set_ne hii] at hy
      rcases hk with hk | hk
      · exact hT.apart i i' _ y k hii hj hy hk hat
      · exact H.apart 0 (i' + 1) _ y k (by omega) rfl hy hk hat
    · rw [List.getElem?_set_ne (Ne.symm hi)] at hx
      by_cases hi' : i' = j
      · subst hi'
        rw [List.getElem?_set_self hjl] at hy
        cases hy
        rcases hat with hat | hat
        · exact hT.apart i i' x _ k hii hx hj hk hat
        · exact H.apart (i + 1) 0 x _ k (by omega) hx rfl hk hat
      · rw [List.getElem?_set_ne (Ne.symm hi')] at hy
        exact hT.apart i i' x y k hii hx hy hk hat
theorem strs_at {w : World} {lo hi b o : Nat} {T : List ByteArray} (h : Rd w lo hi (some ⟨b, o, none⟩) (T.map Value.string)) {i : Nat} {s : ByteArray} (hi : T[i]? = some s) : w.cell? ⟨b, o + i, none⟩ = some (.string s) := by
  obtain ⟨b', o', e, _, _, f⟩ := h (fun e => by
    rw [List.map_eq_nil_iff] at e
    rw [e] at hi; cases hi)
  cases e
  exact f i _ (by rw [List.getElem?_map, hi]; rfl)
set_option maxRecDepth 100000 in
set_option maxHeartbeats 8000000 in
theorem open_ok (w : World) (d : Dev) (h : Dev.At w 0 w.heap.size d) (hw : d.waits.n = 0) (a : Abs) (hS : d.secv = a.S) (ha : a.holds) : Calls Tryz.prog 24 #[.agg d.cells.toArray] w fun e w' => ∃ s : Sto, e = .returned (.tuple #[.agg s.cells.toArray, .int .i64 0]) ∧ s.abs = a ∧ s.dev.waits.n = 0 ∧ Sto.At w' w.heap.size w'.heap.size s ∧ Ext w w' := by
  obtain ⟨i1, hi1, hx0', hx1', hx2'⟩ := info_parts infoOb
  obtain ⟨x, y, hx, hy, hx0, hy0, _, _, hS0, hS1, hu⟩ := ha.ubs
  have hlen : d.secs.n = a.S.length := by rw [← hS, Dev.secv, List.length_map, ← h.secs.len]
  have hck : chkE d = 0 := all64 h (by rw [hS]; exact ha.ok.s64) hw (by have := ha.ok.n2; omega) (by have := ha.ok.n8; omega)
  have HCk := Lib.hid (fun W (hW : Ext w W) => chk_any d W (h.on hW (Nat.le_refl _)))
  rw [hck] at HCk
  have HCr := Lib.hid (fun W (hW : Ext w W) => crash_yes d W (h.on hW (Nat.le_refl _)) hck (by omega) none 0 0 [] ⟨rfl, Nat.zero_le _, Rd.nil⟩)
  have hn2 := ha.ok.n2
  have hn8 := ha.ok.n8
  have HSx := Lib.hid (fun k b (hk : a.S[k]? = some b) => show ∃ (hh : k < d.secs.xs.length), (d.secs.xs[k]).xs = b by
    rw [← hS, Dev.secv, List.getElem?_map] at hk
    obtain ⟨o, ho, e⟩ := Option.map_eq_some_iff.1 hk
    obtain ⟨h1, h2⟩ := List.getElem?_eq_some_iff.1 ho
    exact ⟨h1, by rw [h2]; exact e⟩)
  have HHo := Lib.hid ha
  have HSc := Lib.hid (fun (W : World) (s : Sto) (hs : Sto.At W 0 W.heap.size s) (h1 : s.abs = a) (h2 : s.dev.waits.n = 0) => show Calls Tryz.prog 13 #[.agg s.cells.toArray] W fun e w' => e = .returned (.int .i64 0) ∧ Ext W w' by
    have h4 := scheck_any W s hs (small_abs hs (by rw [h1]; exact ha.ok))
    rw [(sck_abs hs).2 ⟨by rw [h1]; exact ha.ok, h2⟩] at h4
    exact h4)
  have hsx : d.secs.xs.map (fun o => o.xs) = a.S := hS
  have HOb := Lib.hid (fun k (hk : k < a.O.length) => holds_obj ha hsx k hk)
  have HCh := Lib.hid (fun hO => holds_chain ha hsx hO)
  have HFr := Lib.hid ha.first
  have HOk := Lib.hid ha.ok
  have HSs := Lib.hid h.secs
  have HUb := Lib.hid hu
  have HSv := Lib.hid hS
  have HLn := Lib.hid hlen
  have hsn0 : 0 < d.secs.n := by omega
  have hsn1 : (1 : Int) < (d.secs.n : Int) := by omega
  obtain ⟨l0, hs0⟩ := HSx.out 0 _ hS0
  obtain ⟨l1, hs1⟩ := HSx.out 1 _ hS1
  obtain ⟨sb, so, hA, _, hsb, G0⟩ := rd_flat (size := 1) (fun _ => rfl) (by omega) h.secs.rd l0
  obtain ⟨sb', so', hA', _, _, G1⟩ := rd_flat (size := 1) (fun _ => rfl) (by omega) h.secs.rd l1
  obtain ⟨rfl, rfl⟩ : sb = sb' ∧ so = so' := by rw [hA] at hA'; simpa using hA'
  clear hA'
  have k0 := h.secs.all _ (List.getElem_mem l0)
  have k1 := h.secs.all _ (List.getElem_mem l1)
  have g0 := G0 0 _ rfl
  have g1 := G1 0 _ rfl
  simp only [Nat.mul_one, Nat.add_zero] at g0 g1
  clear G0 G1
  generalize d.secs.xs[0] = e0 at *
  generalize d.secs.xs[1] = e1 at *
  obtain ⟨A0, n0, c0, x0⟩ := e0
  obtain ⟨A1, n1, c1, x1⟩ := e1
  dsimp only at hs0 hs1
  subst hs0
  subst hs1
  obtain rfl : n0 = 64 := k0.len.trans (ueB_len x)
  obtain rfl : n1 = 64 := k1.len.trans (ueB_len y)
  have HNw := Lib.hid (fun W (hW : Ext w W) => unew_ok W A0 A1 c0 c1 x y hx hy hx0 hy0 (Oct.At.on k0 hW (Nat.le_refl _)).rdb (Oct.At.on k1 hW (Nat.le_refl _)).rdb k0.le k0.cap k1.le k1.cap)
  rw [← hu] at HNw
  obtain ⟨ni, hni⟩ : ∃ ni : Int, ni = if x.txg < y.txg then 1 else 0 := ⟨_, rfl⟩
  rw [← hni] at HNw
  have HG0 := Lib.hid g0
  have HG1 := Lib.hid g1
  have HUO := Lib.hid ha.ok.ub
  have huw : a.u.wf := by rw [hu]; split <;> assumption
  have HUW := Lib.hid huw
  clear hni hu hx hy hx0 hy0 hS0 hS1 k0 k1 g0 g1 h hck hS hsx ha hlen l0 l1 HUb
  obtain ⟨⟨sA, sn, sc, sx⟩, ⟨qA, qn, qc, qx⟩⟩ := d
  dsimp only at hA hw
  subst hA
  subst hw
  simp only [Dev.cells, Sl.val] at *
  have HAu := Lib.hid (show a = ⟨a.S, a.u, a.O, a.X⟩ from rfl)
  generalize hau : a.u = u at *
  have HAU := Lib.hid hau
  clear hau HAu
  obtain ⟨ut, uf, uo⟩ := u
  simp only [Ub.cells] at *
  have hmf : ∀ (fn : Fn) (first cap : Array Value) (w : World), (Instr.makeFunc fn first cap).run Tryz.prog w = .ok (.func fn first cap) w := fun _ _ _ _ => rfl
  have hmm := @run_makeMap Tryz.prog
  refine (callsIn_wide (n := 1)).1 (callsIn_of_wp_marks Tryz.func24 rfl trivial ?_ rfl)
  simp only [Tryz.ntmps24, List.size_toArray, List.length_cons, List.length_nil, Nat.reduceAdd, Nat.reduceSub, Array.replicate_succ, Array.replicate_zero, List.push_toArray, List.append_toArray, List.nil_append, List.cons_append]
  refine wpIn_wide.2 ?_
  go_upto_region 1 with fail
  generalize hwH : World.alloc (World.alloc (World.alloc w _) _) _ = w1; have HH := Lib.hid (Heap.three hwH); clear hwH
  obtain ⟨db, hdb⟩ : ∃ b, b = w.heap.size := ⟨_, rfl⟩
  obtain ⟨ob, hob⟩ : ∃ b, b = w.heap.size + 1 := ⟨_, rfl⟩
  obtain ⟨eb, heb⟩ : ∃ b, b = w.heap.size + 1 + 1 := ⟨_, rfl⟩
  rw [← heb, ← hob, ← hdb] at HH ⊢
  clear hdb hob heb
  go_upto_region 6 with (first | (refine shl_load HH.out sizeDev (by kernel_rfl) rfl rfl rfl 2 rfl rfl ?_) | (refine shl_load1 HH.out rfl rfl rfl 2 rfl rfl (by decide +kernel) ?_) | (go_at_call 39; (with_reducible refine (HCk.out _ HH.out.ext).mono ?_); rintro e wC ⟨rfl, eC⟩; have HHn := Lib.hid (HH.out.later eC); clear HH eC; have HH := HHn; clear HHn))
  go_cut [5, 6] from 24 to 36 (fun v5 v6 wx => ∃ (ubb : Nat) (q6 : Int), v5 = .pointer (some ⟨ubb, 0, none⟩) ∧ v6 = .int .i64 q6 ∧ Hid (Heap w [.box ubb [.int .i64 ut, .int .i64 uf, .int .i64 uo], .box eb [.int .i64 0], .box ob zSto, .box db [.slice (some ⟨sb, so, none⟩) sn sc, .slice qA 0 qc]] wx))
  case first =>
    refine wp_noP ?_
    have HHd := Lib.hid HH.out.drew
    clear HH
    have HS := Lib.hid (fun (W : World) (hW : Ext w W) (hb : W.cell? ⟨db, 0, none⟩ = some (.slice (some ⟨sb, so, none⟩) sn sc)) => show W.cell? ⟨db, 0, none⟩ = some (.slice (some ⟨sb, so, none⟩) sn sc) ∧ W.cell? ⟨sb, so, none⟩ = some (.slice A0 64 c0) ∧ W.cell? ⟨sb, so + 1, none⟩ = some (.slice A1 64 c1) from
      ⟨hb, (Below.cell hW hsb).trans HG0.out, (Below.cell hW hsb).trans HG1.out⟩)
    refine wp_region_held_drew (S := fun W => W.cell? ⟨db, 0, none⟩ = some (.slice (some ⟨sb, so, none⟩) sn sc) ∧ W.cell? ⟨sb, so, none⟩ = some (.slice A0 64 c0) ∧ W.cell? ⟨sb, so + 1, none⟩ = some (.slice A1 64 c1)) (by kernel_rfl) (HS.out _ HHd.out.ext ((HHd.out.boxAt 2 rfl).cell 0 _ rfl)) (fun hHeld => ?_)
    generalize World.drew _ = wd at *
    refine tS 0 ?_; (try simp only [Act.put, lyA, lyB, lyC])
    refine tS 1 ?_; (try simp only [Act.put, lyA, lyB, lyC])
    refine tS 2 ?_; (try simp only [Act.put, lyA, lyB, lyC])
    refine tS 3 ?_; (try simp only [Act.put, lyA, lyB, lyC])
    refine tS 4 ?_; (try simp only [Act.put, lyA, lyB, lyC])
    refine tS 5 ?_; (try simp only [Act.put, lyA, lyB, lyC])
    refine tS 6 ?_; (try simp only [Act.put, lyA, lyB, lyC])
    refine tS 7 ?_; (try simp only [Act.put, lyA, lyB, lyC])
    clear hHeld
    refine twoH 8 13 rfl rfl (by kernel_rfl) (by kernel_rfl) (by kernel_rfl) (fun K hK => ?_) (fun K hK => ?_)
    · go_simp
      refine (HNw.out wd HHd.out.ext).mono ?_
      rintro e w2 ⟨rfl, e2⟩
      have HH2 := Lib.hid (HHd.out.later e2)
      clear HHd e2
      go_wp2_with fail
      refine hK.out _ _ (HS.out _ HH2.out.ext ((HH2.out.boxAt 2 rfl).cell 0 _ rfl)) (fun hHeld => ?_)
      clear hK K
      (try simp only [Act.put, lyA, lyB, lyC])
      refine tS 9 ?_; (try simp only [Act.put, lyA, lyB, lyC])
      refine tS 10 ?_; (try simp only [Act.put, lyA, lyB, lyC])
      refine tS 11 ?_; (try simp only [Act.put, lyA, lyB, lyC])
      refine tS 12 ?_; (try simp only [Act.put, lyA, lyB, lyC])
      clear hHeld
      refine oS 13 (fun K hK => ?_)
      go_simp
      generalize hwA : World.alloc _ _ = w3
      have HH3 := Lib.hid (HH2.out.allocE hwA)
      clear hwA HH2
      refine hK.out _ _ (HS.out _ HH3.out.ext ((HH3.out.boxAt 3 rfl).cell 0 _ rfl)) (fun hHeld => ?_)
      clear hK K
      (try simp only [Act.put, lyA, lyB, lyC])
      clear hHeld
      refine oS 14 (fun K hK => ?_); refine sh_store HH3.out sizeUb rfl rfl rfl 0 rfl rfl (Nat.le_of_ble_eq_true rfl) rfl ?_; intro w5 hh5; have HH5 := Lib.hid hh5; clear hh5 HH3; refine hK.out _ _ (HS.out _ HH5.out.ext ((HH5.out.boxAt 3 rfl).cell 0 _ rfl)) (fun hHeld => ?_); clear hK K; (try simp only [Act.put, lyA, lyB, lyC]); refine tS 15 ?_; (try simp only [Act.put, lyA, lyB, lyC]); clear hHeld; refine oS 16 (fun K hK => ?_); refine sh_store1 HH5.out rfl rfl rfl 1 rfl (Nat.le_of_ble_eq_true rfl) rfl (by kernel_rfl) ?_; intro w6 hh6; have HH6 := Lib.hid hh6; clear hh6 HH5; refine hK.out _ _ (HS.out _ HH6.out.ext ((HH6.out.boxAt 3 rfl).cell 0 _ rfl)) (fun hHeld => ?_); clear hK K; (try simp only [Act.put, lyA, lyB, lyC]); refine wpAnyH_done (by kernel_rfl) ?_ _; simp only [noP]; go_wp2_with fail; go_meet; exact ⟨_, _, rfl, rfl, HH6⟩
    · go_simp
      generalize hwA : World.alloc _ _ = w3
      have HH2 := Lib.hid (HHd.out.allocE hwA)
      clear hwA HHd
      refine hK.out _ _ (HS.out _ HH2.out.ext ((HH2.out.boxAt 3 rfl).cell 0 _ rfl)) (fun hHeld => ?_)
      clear hK K
      (try simp only [Act.put, lyA, lyB, lyC])
      clear hHeld
      refine oS 8 (fun K hK => ?_)
      go_simp
      refine (HNw.out w3 HH2.out.ext).mono ?_
      rintro e w4 ⟨rfl, e2⟩
      have HH3 := Lib.hid (HH2.out.later e2)
      clear HH2 e2
      go_wp2_with fail
      refine hK.out _ _ (HS.out _ HH3.out.ext ((HH3.out.boxAt 3 rfl).cell 0 _ rfl)) (fun hHeld => ?_)
      clear hK K
      (try simp only [Act.put, lyA, lyB, lyC])
      refine tS 9 ?_; (try simp only [Act.put, lyA, lyB, lyC])
      refine tS 10 ?_; (try simp only [Act.put, lyA, lyB, lyC])
      refine tS 11 ?_; (try simp only [Act.put, lyA, lyB, lyC])
      refine tS 12 ?_; (try simp only [Act.put, lyA, lyB, lyC])
      clear hHeld
      refine oS 14 (fun K hK => ?_); refine sh_store HH3.out sizeUb rfl rfl rfl 0 rfl rfl (Nat.le_of_ble_eq_true rfl) rfl ?_; intro w5 hh5; have HH5 := Lib.hid hh5; clear hh5 HH3; refine hK.out _ _ (HS.out _ HH5.out.ext ((HH5.out.boxAt 3 rfl).cell 0 _ rfl)) (fun hHeld => ?_); clear hK K; (try simp only [Act.put, lyA, lyB, lyC]); refine tS 15 ?_; (try simp only [Act.put, lyA, lyB, lyC]); clear hHeld; refine oS 16 (fun K hK => ?_); refine sh_store1 HH5.out rfl rfl rfl 1 rfl (Nat.le_of_ble_eq_true rfl) rfl (by kernel_rfl) ?_; intro w6 hh6; have HH6 := Lib.hid hh6; clear hh6 HH5; refine hK.out _ _ (HS.out _ HH6.out.ext ((HH6.out.boxAt 3 rfl).cell 0 _ rfl)) (fun hHeld => ?_); clear hK K; (try simp only [Act.put, lyA, lyB, lyC]); refine wpAnyH_done (by kernel_rfl) ?_ _; simp only [noP]; go_wp2_with fail; go_meet; exact ⟨_, _, rfl, rfl, HH6⟩
  case rest =>
    clear HH HNw HG0 HG1
    obtain ⟨ubb, q6, rfl, rfl, HH⟩ := hcut
    go_upto_region 10 with (refine shl_load1 HH.out rfl rfl rfl 1 rfl rfl (by decide +kernel) ?_)
    go_wp2_with (refine shl_load HH.out sizeDev (by kernel_rfl) rfl rfl rfl 3 rfl rfl ?_)
    refine (HCr.out _ HH.out.ext).mono ?_
    rintro e w7 ⟨⟨d2, rfl, hv2, hq2, hn2', hd2⟩, e7⟩
    have HH7 := Lib.hid (HH.out.addLook e7 (J := fun W => Dev.At W wc.heap.size w7.heap.size d2) (fun _ _ hr hh => hh.imp hr) (Nat.le_refl _) (Nat.le_refl _) hd2)
    have HV2 := Lib.hid (show d2.secv = a.S from hv2.trans HSv.out)
    have HLe := Lib.hid (show w.heap.size ≤ wc.heap.size from HH.out.ext.size)
    clear HH hv2 hn2' hd2 e7 HCr
    obtain ⟨⟨eA, en, ec, ex⟩, wq⟩ := d2
    dsimp only at hq2
    subst hq2
    simp only [Dev.cells, Sl.val]
    have HH := HH7
    clear HH7
    go_upto_region 11 with (refine shl_store (HH.out.alloc _ _) sizeDev rfl rfl rfl rfl 0 rfl rfl rfl rfl ?_; clear HH; intro wS HHS; have HH := Lib.hid HHS; clear HHS)
    obtain ⟨tb, htb⟩ : ∃ b, b = w7.heap.size := ⟨_, rfl⟩
    obtain ⟨nb, hnb⟩ : ∃ b, b = wS.heap.size := ⟨_, rfl⟩
    rw [← htb] at HH ⊢
    have HNb := Lib.hid hnb
    clear htb hnb
    go_upto_region 12 with (first | (refine shl_load HH.out sizeDev (by kernel_rfl) rfl rfl rfl 0 rfl rfl ?_) | (refine shl_load HH.out sizeUb (by kernel_rfl) rfl rfl rfl 2 rfl rfl ?_) | (refine shl_store (HH.out.alloc _ _) sizeSto rfl rfl rfl rfl 0 rfl rfl rfl rfl ?_; clear HH; intro wS HHS; have HH := Lib.hid HHS; clear HHS))
    rw [← HNb.out] at HH ⊢
    clear HNb
    have HH2 := Lib.hid (show Heap w (.box nb [.slice eA en ec, .slice none 0 0, .int .i64 ut, .int .i64 uf, .int .i64 uo, .slice none 0 0, .slice none 0 0] :: .box tb [.slice eA en ec, .slice none 0 0] :: _ :: .box ubb [.int .i64 ut, .int .i64 uf, .int .i64 uo] :: .box eb [.int .i64 0] :: .box ob zSto :: .box db [.slice (some ⟨sb, so, none⟩) sn sc, .slice qA 0 qc] :: []) wS from HH.out)
    clear HH
    have HH := HH2
    clear HH2
    obtain ⟨mb, hmb⟩ : ∃ b, b = wS.heap.size := ⟨_, rfl⟩
    have HMb := Lib.hid hmb
    clear hmb
    go_upto_region 13 with (refine shl_load HH.out sizeDev (by kernel_rfl) rfl rfl rfl 6 rfl rfl ?_)
    generalize hwA : World.alloc (World.alloc (World.alloc wS _) _) _ = w8
    have HH2 := Lib.hid (((HH.out.allocMap rfl).alloc _ _).allocE hwA)
    clear HH hwA
    have HH := HH2
    clear HH2
    simp only [World.size_alloc] at HH
    rw [← HMb.out] at HH ⊢
    obtain ⟨rb, hrb⟩ : ∃ b, b = mb + 1 := ⟨_, rfl⟩
    obtain ⟨pb, hpb⟩ : ∃ b, b = mb + 1 + 1 := ⟨_, rfl⟩
    rw [← hpb, ← hrb] at HH ⊢
    clear hpb hrb HMb
    by_cases hO : a.O = []
    · have hX : a.X = [] := HOk.out.xl hO
      have huf : uf = 0 := by
        have h1 := HFr.out
        rw [hX] at h1
        exact h1
      subst huf
      go_upto_region 19 with (refine shl_load1 HH.out rfl rfl rfl 6 rfl rfl (by decide +kernel) ?_)
      go_wp2_with (refine shl_load HH.out sizeSto (by kernel_rfl) rfl rfl rfl 3 rfl rfl ?_)
      refine (HSc.out _ ⟨⟨⟨eA, en, ec, ex⟩, ⟨none, 0, 0, []⟩⟩, ⟨ut, 0, uo⟩, ⟨none, 0, 0, []⟩, ⟨none, 0, 0, []⟩⟩ ⟨(HH.out.lookAt 5 rfl).2.imp fun _ _ hr => hr.more (Nat.zero_le _) (HH.out.lookAt 5 rfl).1, HUW.out, ⟨rfl, Nat.le_refl _, Nat.zero_le _, Rd.nil, fun _ hh => by cases hh⟩, ⟨rfl, Nat.le_refl _, Nat.zero_le _, Rd.nil, fun _ hh => by cases hh⟩⟩ (abs_eq HV2.out HAU.out.symm hO.symm hX.symm) rfl).mono ?_
      rintro e w9 ⟨rfl, e9⟩
      have HH9 := Lib.hid (HH.out.later e9)
      clear HH e9
      have HH := HH9
      clear HH9
      go_wp2_with (first | (go_at_call 59; (refine (sneed_true _ _).mono ?_); rintro e wN ⟨rfl, rfl⟩) | (refine shl_load HH.out sizeSto (by kernel_rfl) rfl rfl rfl 3 rfl rfl ?_) | (refine shl_store HH.out sizeSto rfl rfl rfl rfl 8 rfl rfl rfl rfl ?_; clear HH; intro wS HHS; have HH := Lib.hid HHS; clear HHS) | (refine shl_store1 HH.out rfl rfl rfl rfl 7 rfl rfl rfl (by kernel_rfl) ?_; clear HH; intro wS HHS; have HH := Lib.hid HHS; clear HHS))
      refine op_leave HH.out 8 7 rfl rfl rfl rfl rfl ?_
      intro w10 h10
      exact ⟨⟨⟨⟨eA, en, ec, ex⟩, ⟨none, 0, 0, []⟩⟩, ⟨ut, 0, uo⟩, ⟨none, 0, 0, []⟩, ⟨none, 0, 0, []⟩⟩, rfl, abs_eq HV2.out HAU.out.symm hO.symm hX.symm, rfl, ⟨(h10.lookAt 5 rfl).2.imp fun _ _ hr => hr.more HLe.out (h10.lookAt 5 rfl).1, HUW.out, ⟨rfl, Nat.le_refl _, Nat.zero_le _, Rd.nil, fun _ hh => by cases hh⟩, ⟨rfl, Nat.le_refl _, Nat.zero_le _, Rd.nil, fun _ hh => by cases hh⟩⟩, h10.ext⟩
    · obtain ⟨ps, hcn, hfl⟩ := HCh.out hO
      have hul := used_len HOk.out
      rw [Abs.used, List.length_append] at hul
      have hxn := HOk.out.xn hO
      have hE := HOk.out.wE0
      have hw2 := wB_two hE
      have hx1 : 0 < a.X.length := by rw [hxn]; unfold cntP; omega
      have hx2 := HOk.out.lo (a.X[0]) (List.mem_append_left _ (List.getElem_mem hx1))
      have huf1 : uf = a.X[0] := by
        have h1 := HFr.out
        rw [List.getD_eq_getElem?_getD, List.getElem?_eq_getElem hx1] at h1
        exact h1
      have hXn : ∀ y ∈ a.X, 0 ≤ y := fun y hy => by have := HOk.out.lo y (List.mem_append_left _ hy); omega
      obtain ⟨qs, hqs⟩ : ∃ qs, qs = natL a.X := ⟨_, rfl⟩
      rw [← hqs] at hcn
      have HQb := Lib.hid (show qs.map Int.ofNat = a.X by rw [hqs]; exact natL_back hXn)
      have hql : qs.length = a.X.length := by rw [hqs, natL, List.length_map]
      have huf : uf = ((qs.getD 0 0 : Nat) : Int) := by
        rw [huf1, hqs, List.getD_eq_getElem?_getD, natL, List.getElem?_map, List.getElem?_eq_getElem hx1]
        show a.X[0] = ((a.X[0].toNat : Nat) : Int)
        omega
      have hq0 : ¬ uf = 0 := by omega
      have hq9 : qs.length ≤ 8190 := by omega
      have hwl : (wB (idxS a.O)).length ≤ 500000 := by unfold cntP at hxn; omega
      have HQs := Lib.hid hqs
      have HE := Lib.hid hE
      have HFl := Lib.hid hfl
      have HCn := Lib.hid hcn
      have HUf := Lib.hid huf
      have HOn := Lib.hid hO
      have HHb := Lib.hid HH.out.bag0
      clear HH hul hxn hE hw2 hx1 hx2 huf1 hXn hqs hql hfl hcn huf hO
      have HH := HHb
      clear HHb
      go_upto_region 15 with (refine shl_load1 HH.out rfl rfl rfl 7 rfl rfl (by decide +kernel) ?_)
      go_wp2_with (first | (refine shl_load1 HH.out rfl rfl rfl 1 rfl rfl (by decide +kernel) ?_) | (refine shl_load1 HH.out rfl rfl rfl 7 rfl rfl (by decide +kernel) ?_))
      rw [HUf.out]
      refine (lchain_ok rb mb 0 [] ⟨some ⟨sb, so, none⟩, sn, sc, sx⟩ (.slice qA 0 qc) 2 3 rfl rfl HH.out HSs.out (by rw [show sn = a.S.length from HLn.out]; exact hn8) (by decide) qs ps HCn.out (by omega)).mono ?_
      rintro e w9 ⟨A9, c9, B9, d9, rfl, h9⟩
      rw [HFl.out] at h9 ⊢
      rw [HQb.out] at h9
      obtain ⟨p1, p2⟩ := own_form2 (h9.rowAt 0 rfl)
      obtain ⟨p3, p4⟩ := own_form2 (h9.rowAt 1 rfl)
      obtain ⟨S1, h10⟩ := h9.rowBag (j := 1) rfl
      obtain ⟨S2, h11⟩ := (show Heap w (.row 5 1 (.slice A9 (wB (idxS a.O)).length c9) (wB (idxS a.O)).length (bytes (wB (idxS a.O))) :: It.bag S1 [(B9, ints a.X)] :: .box pb [.pointer (some ⟨rb, 0, none⟩)] :: .box rb [.slice (some ⟨sb, so, none⟩) sn sc, .slice qA 0 qc, .map (some mb)] :: It.mapi mb (0 + qs.length) (metL [] qs) :: .box nb [.slice eA en ec, .slice none 0 0, .int .i64 ut, .int .i64 uf, .int .i64 uo, .slice none 0 0, .slice none 0 0] :: .box tb [.slice eA en ec, .slice none 0 0] :: It.look (fun W => Dev.At W wc.heap.size tb ⟨⟨eA, en, ec, ex⟩, ⟨none, 0, 0, []⟩⟩) wc.heap.size tb (fun _ _ hr hh => hh.imp hr) :: .box ubb [.int .i64 ut, .int .i64 uf, .int .i64 uo] :: .box eb [.int .i64 0] :: .box ob zSto :: .box db [.slice (some ⟨sb, so, none⟩) sn sc, .slice qA 0 qc] :: []) w9 from h10).rowBag (j := 0) rfl
      clear HH h9 h10
      have HH := Lib.hid (show Heap w (It.bag S2 [(A9, bytes (wB (idxS a.O))), (B9, ints a.X)] :: .box pb [.pointer (some ⟨rb, 0, none⟩)] :: .box rb [.slice (some ⟨sb, so, none⟩) sn sc, .slice qA 0 qc, .map (some mb)] :: It.mapi mb (0 + qs.length) (metL [] qs) :: .box nb [.slice eA en ec, .slice none 0 0, .int .i64 ut, .int .i64 uf, .int .i64 uo, .slice none 0 0, .slice none 0 0] :: .box tb [.slice eA en ec, .slice none 0 0] :: It.look (fun W => Dev.At W wc.heap.size tb ⟨⟨eA, en, ec, ex⟩, ⟨none, 0, 0, []⟩⟩) wc.heap.size tb (fun _ _ hr hh => hh.imp hr) :: .box ubb [.int .i64 ut, .int .i64 uf, .int .i64 uo] :: .box eb [.int .i64 0] :: .box ob zSto :: .box db [.slice (some ⟨sb, so, none⟩) sn sc, .slice qA 0 qc] :: []) w9 from h11)
      clear h11
      go_upto_region 16 with (refine shl_store1 HH.out rfl rfl rfl rfl 4 rfl rfl rfl (by kernel_rfl) ?_; clear HH; intro wS HHS; have HH := Lib.hid HHS; clear HHS)
      go_wp2_with fail
      refine (items_ok _ A9 _ c9 (idxS a.O) HE.out (by rw [idxS_len]; omega) rfl p3 ((HH.out.bagRd (j := 0) rfl (List.mem_cons_self ..)).m0) (by omega) p4).mono ?_
      rintro e w12 ⟨B12, d12, rfl, hown, e12⟩
      obtain ⟨p5, p6⟩ := own_form2 hown
      obtain ⟨S3, h13⟩ := HH.out.bagExt (j := 0) rfl e12 (L2 := [(B12, (idxS a.O).map Value.string)]) (fun q hq => by
        simp only [List.mem_cons, List.not_mem_nil, or_false] at hq
        subst hq
        exact Rd.of_own hown)
      have HH2 := Lib.hid h13
      clear HH hown e12 h13
      have HH := HH2
      clear HH2
      have htl : (idxS a.O).length ≤ 1000 := by rw [idxS_len]; have := HOk.out.cnt; omega
      go_wp2_with fail
      refine (chunk_str _ B12 (idxS a.O).length d12 3 (by decide) (by decide)).mono ?_
      rintro e w13 ⟨rfl, rfl⟩
      generalize hwH : World.alloc (World.alloc w12 _) _ = w13
      have HH2 := Lib.hid ((HH.out.alloc _ _).allocE hwH)
      clear HH hwH
      have HH := HH2
      clear HH2
      simp only [World.size_alloc] at HH
      obtain ⟨bs, hbs⟩ : ∃ b, b = w12.heap.size := ⟨_, rfl⟩
      obtain ⟨bm, hbm⟩ : ∃ b, b = w12.heap.size + 1 := ⟨_, rfl⟩
      rw [← hbm, ← hbs] at HH ⊢
      clear hbs hbm
      have HL0 := Lib.hid (show (A9, bytes (wB (idxS a.O))) ∈ [(B12, (idxS a.O).map Value.string), (A9, bytes (wB (idxS a.O))), (B9, ints a.X)] ∧ (B9, ints a.X) ∈ [(B12, (idxS a.O).map Value.string), (A9, bytes (wB (idxS a.O))), (B9, ints a.X)] ∧ (B12, (idxS a.O).map Value.string) ∈ [(B12, (idxS a.O).map Value.string), (A9, bytes (wB (idxS a.O))), (B9, ints a.X)] from ⟨by simp, by simp, by simp⟩)
      have HH2 := Lib.hid (show Heap w (.row 35 3 (.slice none 0 0) 0 [] :: .box bm [.int .i64 3] :: .box bs [.slice B12 (idxS a.O).length d12] :: It.bag S3 [(B12, (idxS a.O).map Value.string), (A9, bytes (wB (idxS a.O))), (B9, ints a.X)] :: .box pb [.pointer (some ⟨rb, 0, none⟩)] :: .box rb [.slice (some ⟨sb, so, none⟩) sn sc, .slice qA 0 qc, .map (some mb)] :: It.mapi mb (0 + qs.length) (metL [] qs) :: .box nb [.slice eA en ec, .slice none 0 0, .int .i64 ut, .int .i64 uf, .int .i64 uo, .slice none 0 0, .slice B9 qs.length d9] :: .box tb [.slice eA en ec, .slice none 0 0] :: It.look (fun W => Dev.At W wc.heap.size tb ⟨⟨eA, en, ec, ex⟩, ⟨none, 0, 0, []⟩⟩) wc.heap.size tb (fun _ _ hr hh => hh.imp hr) :: .box ubb [.int .i64 ut, .int .i64 uf, .int .i64 uo] :: .box eb [.int .i64 0] :: .box ob zSto :: .box db [.slice (some ⟨sb, so, none⟩) sn sc, .slice qA 0 qc] :: []) w13 from HH.out.row0 (e := 35) (size := 3))
      clear HH
      have HH := HH2
      clear HH2
      go_wp2_with fail
      obtain ⟨L0, hL0⟩ : ∃ L0, L0 = [(B12, (idxS a.O).map Value.string), (A9, bytes (wB (idxS a.O))), (B9, ints a.X)] := ⟨_, rfl⟩
      rw [← hL0] at HL0 HH
      clear hL0
      have HN := Lib.hid (show chN 3 (idxS a.O).length = a.O.length by rw [idxS_len, chN]; omega)
      have HB := Lib.hid (fun k => show (qs ++ prevL a.O k).length ≤ 8190 by
        have h1 := used_len HOk.out
        rw [Abs.used, List.length_append] at h1
        have h2 := prevL_len a.O k
        have h3 : qs.length = a.X.length := by rw [HQs.out, natL, List.length_map]
        rw [List.length_append]
        omega)
      refine rangeH (P := Tryz.prog) (α := Nat) (N := chN 3 (idxS a.O).length) (w0 := w) (gf := 104) (lb := #[.pointer (some ⟨bs, 0, none⟩), .pointer (some ⟨bm, 0, none⟩)]) (encs := fun k => #[chV B12 3 (idxS a.O).length k]) (ok := fun pre k => k = pre.length) (S := fun xs => xs = List.range (chN 3 (idxS a.O).length))
        (fun pre L9 => ∃ (A : Option Addr) (c : Nat) (os : List Ob) (S' : Nat → Prop) (L' : RdL), L9 = .row 35 3 (.slice A pre.length c) pre.length (os.flatMap Ob.cells) :: .box bm [.int .i64 3] :: .box bs [.slice B12 (idxS a.O).length d12] :: It.bag S' L' :: .box pb [.pointer (some ⟨rb, 0, none⟩)] :: .box rb [.slice (some ⟨sb, so, none⟩) sn sc, .slice qA 0 qc, .map (some mb)] :: It.mapi mb (0 + (qs ++ prevL a.O pre.length).length) (metL [] (qs ++ prevL a.O pre.length)) :: .box nb [.slice eA en ec, .slice none 0 0, .int .i64 ut, .int .i64 uf, .int .i64 uo, .slice A pre.length c, .slice B9 qs.length d9] :: .box tb [.slice eA en ec, .slice none 0 0] :: It.look (fun W => Dev.At W wc.heap.size tb ⟨⟨eA, en, ec, ex⟩, ⟨none, 0, 0, []⟩⟩) wc.heap.size tb (fun _ _ hr hh => hh.imp hr) :: .box ubb [.int .i64 ut, .int .i64 uf, .int .i64 uo] :: .box eb [.int .i64 0] :: .box ob zSto :: .box db [.slice (some ⟨sb, so, none⟩) sn sc, .slice qA 0 qc] :: [] ∧ os.map strip = a.O.take pre.length ∧ (∀ o ∈ os, ObIn L' o) ∧ ∀ q ∈ L0, q ∈ L') false rfl
        (enters_of Tryz.func104 (by kernel_rfl) rfl) (fun _ => rfl) (fun h => by cases h) (chunk_seqS (by decide) (by decide) (by omega) p5 ?cells) ⟨none, 0, [], S3, L0, by rw [show prevL a.O ([] : List Nat).length = [] from rfl, List.append_nil]; rfl, rfl, (by intro o ho; simp at ho), (fun q hq => hq)⟩ HH.out ?a1 ?assign ?body ?done
      case cells =>
        rintro pre L ⟨A, c, os, S', L', rfl, _⟩ W x y HW
        exact ⟨(HW.boxAt 4 rfl).cell 0 _ rfl, (HW.boxAt 3 rfl).cell 0 _ rfl⟩
      case assign =>
        intro l k W K hK
        simp only [chV]
        gi_wp2
        exact hK
      case body =>
        clear HH
        rintro l pre k y1 y2 y3 L9 W hlen hk ⟨A, c, os, S', L', rfl, hos, hoi, hLL⟩ H
        have HKp := Lib.hid hk.symm
        rw [← hk] at hlen hos H
        clear hk
        rw [HN.out] at hlen
        have HH := Lib.hid H
        have HOs := Lib.hid hos
        have HOi := Lib.hid hoi
        have HLL := Lib.hid hLL
        have hol : os.length ≤ 256 := by
          have h1 := congrArg List.length hos
          rw [List.length_map, List.length_take] at h1
          have := HOk.out.cnt
          omega
        have HOl := Lib.hid (show os.length = k by
          have h1 := congrArg List.length hos
          rw [List.length_map, List.length_take] at h1
          omega)
        have hk256 : k ≤ 256 := by have := HOk.out.cnt; omega
        clear H hos hoi hLL
        have hob := HOb.out k hlen
        rw [← HQs.out] at hob
        obtain ⟨t0, t1, t2⟩ := idxS_at a.O k hlen
        have HPv := Lib.hid (prevL_succ a.O k hlen)
        have HTo := Lib.hid (List.take_succ_eq_append_getElem hlen)
        have hbk := HB.out k
        have hm3 : min 3 ((idxS a.O).length - k * 3) = 3 := by rw [idxS_len]; omega
        have hkey : (a.O[k]).1.size ≤ 65536 := ((wE_zero _).1 HE.out).2 _ (List.mem_of_getElem? t0)
        generalize a.O[k] = o0 at *
        clear hlen
        obtain ⟨key, dat, at_⟩ := o0
        dsimp only at t0 t1 t2 hkey HPv HTo
        have HOj := Lib.hid hob
        have hdat := hob.fit
        dsimp only at hdat
        clear hob
        obtain ⟨gb, go, hB12, _, _, _⟩ := (HH.out.bagRd (j := 6) rfl (HLL.out _ HL0.out.2.2)) (fun e => by
          rw [List.map_eq_nil_iff] at e
          rw [e] at t0; cases t0)
        subst hB12
        have HTc := Lib.hid (fun (W : World) (its' : List It) (j : Nat) (S' : Nat → Prop) (L' : RdL) (hW : Heap w its' W) (hj : its'[j]? = some (It.bag S' L')) (hL : ∀ q ∈ L0, q ∈ L') => show W.cell? ⟨gb, go + k * 3, none⟩ = some (.string key) ∧ W.cell? ⟨gb, go + k * 3 + 1, none⟩ = some (.string (num8 (dat.length : Int))) ∧ W.cell? ⟨gb, go + k * 3 + 2, none⟩ = some (.string ⟨(numsO at_).toArray⟩) from by
          have hR := hW.bagRd hj (hL _ HL0.out.2.2)
          have f0 := strs_at hR t0
          have f1 := strs_at hR t1
          have f2 := strs_at hR t2
          exact ⟨f0, f1, f2⟩)
        clear t0 t1 t2
        rw [hm3, show ((some ⟨gb, go, none⟩ : Option Addr).map (·.add (k * 3))) = some ⟨gb, go + k * 3, none⟩ by show some (Addr.add ⟨gb, go, none⟩ (k * 3)) = _; rw [add_lit]]
        clear hm3
        refine wpIn_block ?_
        have HHd := Lib.hid HH.out.drew
        clear HH
        refine rgnMIn (fun z => Nat.blt z 15) (S := fun W => W.cell? ⟨nb, 5, none⟩ = some (.slice A k c) ∧ W.cell? ⟨pb, 0, none⟩ = some (.pointer (some ⟨rb, 0, none⟩)) ∧ W.cell? ⟨gb, go + k * 3, none⟩ = some (.string key) ∧ W.cell? ⟨gb, go + k * 3 + 1, none⟩ = some (.string (num8 (dat.length : Int))) ∧ W.cell? ⟨gb, go + k * 3 + 2, none⟩ = some (.string ⟨(numsO at_).toArray⟩)) (by rintro ⟨_, _, h⟩; cases h.1) rfl (by kernel_rfl) ⟨(HHd.out.boxAt 10 rfl).cell 5 _ rfl, (HHd.out.boxAt 7 rfl).cell 0 _ rfl, HTc.out _ _ 6 _ _ HHd.out rfl HLL.out⟩ (fun hHeld => ?_)
        generalize World.drew _ = wd at *
        refine mS 0 ?_; (try simp only [Act.put, lyA, lyB, lyC])
        refine mS 1 ?_; (try simp only [Act.put, lyA, lyB, lyC])
        refine mS 2 ?_; (try simp only [Act.put, lyA, lyB, lyC])
        refine mS 3 ?_; (try simp only [Act.put, lyA, lyB, lyC])
        refine mS 4 ?_; (try simp only [Act.put, lyA, lyB, lyC])
        refine mS 5 ?_; (try simp only [Act.put, lyA, lyB, lyC])
        refine mS 6 ?_; (try simp only [Act.put, lyA, lyB, lyC])
        refine mS 7 ?_; (try simp only [Act.put, lyA, lyB, lyC])
        refine mS 8 ?_; (try simp only [Act.put, lyA, lyB, lyC])
        refine mS 9 ?_; (try simp only [Act.put, lyA, lyB, lyC])
        refine mS 10 ?_; (try simp only [Act.put, lyA, lyB, lyC])
        refine mS 11 ?_; (try simp only [Act.put, lyA, lyB, lyC])
        clear hHeld
        refine oneM 12 rfl (by kernel_rfl) (by kernel_rfl) (fun K hK => ?_)
        go_simp
        refine (lobj_ok rb mb (0 + (qs ++ prevL a.O k).length) (metL [] (qs ++ prevL a.O k)) ⟨some ⟨sb, so, none⟩, sn, sc, sx⟩ (.slice qA 0 qc) 8 9 rfl rfl HHd.out HSs.out (by rw [show sn = a.S.length from HLn.out]; exact hn8) (by omega) key _ dat (natL at_) hdat HOj.out.len HOj.out.lo HOj.out.nd HOj.out.pages (by rw [HOj.out.back])).mono ?_
        rintro e w5 ⟨A5, c5, B5, d5, rfl, h5⟩
        have HBk := Lib.hid (show (natL at_).map Int.ofNat = at_ from HOj.out.back)
        rw [HBk.out] at h5
        have hnl : (natL at_).length = at_.length := by rw [natL, List.length_map]
        rw [hnl] at h5 ⊢
        obtain ⟨q1, q2⟩ := own_form2 (h5.rowAt 0 rfl)
        obtain ⟨q3, q4⟩ := own_form2 (h5.rowAt 1 rfl)
        obtain ⟨S6, h6⟩ := h5.rowBag (j := 7) rfl
        obtain ⟨S7, h7⟩ := (show Heap w (.row 5 1 (.slice A5 dat.length c5) dat.length (bytes dat) :: (let B12 : Option Addr := some ⟨gb, go, none⟩; y1 :: y2 :: y3 :: .row 35 3 (.slice A k c) k (os.flatMap Ob.cells) :: .box bm [.int .i64 3] :: .box bs [.slice B12 (idxS a.O).length d12] :: It.bag S6 ((B5, ints at_) :: L') :: .box pb [.pointer (some ⟨rb, 0, none⟩)] :: .box rb [.slice (some ⟨sb, so, none⟩) sn sc, .slice qA 0 qc, .map (some mb)] :: It.mapi mb (0 + (qs ++ prevL a.O k).length + at_.length) (metL (metL [] (qs ++ prevL a.O k)) (natL at_)) :: .box nb [.slice eA en ec, .slice none 0 0, .int .i64 ut, .int .i64 uf, .int .i64 uo, .slice A k c, .slice B9 qs.length d9] :: .box tb [.slice eA en ec, .slice none 0 0] :: It.look (fun W => Dev.At W wc.heap.size tb ⟨⟨eA, en, ec, ex⟩, ⟨none, 0, 0, []⟩⟩) wc.heap.size tb (fun _ _ hr hh => hh.imp hr) :: .box ubb [.int .i64 ut, .int .i64 uf, .int .i64 uo] :: .box eb [.int .i64 0] :: .box ob zSto :: .box db [.slice (some ⟨sb, so, none⟩) sn sc, .slice qA 0 qc] :: [])) w5 from h6).rowBag (j := 6) rfl
        obtain ⟨L7, hL7⟩ : ∃ L7, L7 = (A5, bytes dat) :: (B5, ints at_) :: L' := ⟨_, rfl⟩
        have HM7 := Lib.hid (show (A5, bytes dat) ∈ L7 ∧ (B5, ints at_) ∈ L7 ∧ ∀ q ∈ L', q ∈ L7 by
          rw [hL7]
          exact ⟨List.mem_cons_self .., List.mem_cons_of_mem _ (List.mem_cons_self ..), fun q hq => List.mem_cons_of_mem _ (List.mem_cons_of_mem _ hq)⟩)
        have hmk : 0 + (qs ++ prevL a.O k).length + at_.length = 0 + (qs ++ prevL a.O (k + 1)).length := by
          rw [HPv.out]; simp only [List.length_append, hnl]; omega
        have hLk : metL (metL [] (qs ++ prevL a.O k)) (natL at_) = metL [] (qs ++ prevL a.O (k + 1)) := by
          rw [HPv.out, ← List.append_assoc]
          exact (metL_app [] (qs ++ prevL a.O k) (natL at_)).symm
        have HH7 := Lib.hid (show Heap w (let B12 : Option Addr := some ⟨gb, go, none⟩; y1 :: y2 :: y3 :: .row 35 3 (.slice A k c) k (os.flatMap Ob.cells) :: .box bm [.int .i64 3] :: .box bs [.slice B12 (idxS a.O).length d12] :: It.bag S7 L7 :: .box pb [.pointer (some ⟨rb, 0, none⟩)] :: .box rb [.slice (some ⟨sb, so, none⟩) sn sc, .slice qA 0 qc, .map (some mb)] :: It.mapi mb (0 + (qs ++ prevL a.O (k + 1)).length) (metL [] (qs ++ prevL a.O (k + 1))) :: .box nb [.slice eA en ec, .slice none 0 0, .int .i64 ut, .int .i64 uf, .int .i64 uo, .slice A k c, .slice B9 qs.length d9] :: .box tb [.slice eA en ec, .slice none 0 0] :: It.look (fun W => Dev.At W wc.heap.size tb ⟨⟨eA, en, ec, ex⟩, ⟨none, 0, 0, []⟩⟩) wc.heap.size tb (fun _ _ hr hh => hh.imp hr) :: .box ubb [.int .i64 ut, .int .i64 uf, .int .i64 uo] :: .box eb [.int .i64 0] :: .box ob zSto :: .box db [.slice (some ⟨sb, so, none⟩) sn sc, .slice qA 0 qc] :: []) w5 by
          rw [hL7, ← hmk, ← hLk]
          exact h7)
        clear HHd h5 h6 h7 hL7 hmk hLk hnl
        go_wp2_with fail
        refine hK.out _ _ ⟨(HH7.out.boxAt 10 rfl).cell 5 _ rfl, (HH7.out.boxAt 7 rfl).cell 0 _ rfl, HTc.out _ _ 6 _ _ HH7.out rfl (fun q hq => HM7.out.2.2 _ (HLL.out _ hq))⟩ (fun hHeld => ?_)
        clear hK K hHeld
        (try simp only [Act.put, lyA, lyB, lyC])
        refine oneM 13 rfl (by kernel_rfl) (by kernel_rfl) (fun K hK => ?_)
        go_simp
        generalize hwA : World.alloc _ _ = w8
        have HH8 := Lib.hid (HH7.out.allocE hwA)
        clear hwA HH7
        refine hK.out _ _ ⟨(HH8.out.boxAt 11 rfl).cell 5 _ rfl, (HH8.out.boxAt 8 rfl).cell 0 _ rfl, HTc.out _ _ 7 _ _ HH8.out rfl (fun q hq => HM7.out.2.2 _ (HLL.out _ hq))⟩ (fun hHeld => ?_)
        clear hK K hHeld
        (try simp only [Act.put, lyA, lyB, lyC])
        refine freeM 14 rfl (by kernel_rfl) (by kernel_rfl) (by kernel_rfl) (fun K hK => ?_)
        refine sh_app (.tmp 70) (.tmp 82) _ rfl Tryz.underlying28 hi1 hx0' hx1' hx2' rfl (by omega) HH8.out 4 rfl rfl (m := 1) rfl rfl (HH8.out.boxRd 0 rfl) (by simp [Value.oneCell']) (by simp only [maxLen]; omega) (by omega) ?_
        rintro v9 w9 hh9 ⟨A9', c9', rfl⟩
        have HH9 := Lib.hid hh9.tail
        clear hh9 HH8
        refine hK.out _ _ ?_
        clear hK K
        (try simp only [Act.put, lyA, lyB, lyC])
        refine pureM 15 (v := ?_) rfl (by kernel_rfl) (by kernel_rfl) (by kernel_rfl) (by kernel_rfl) (fun _ _ _ h => h) (by kernel_rfl) ?_ (fun h => absurd h (no_more (by kernel_rfl))) ?_; rotate_left; (focus (intro w; go_simp <;> with_reducible rfl)); (try simp only [Act.put, lyA, lyB, lyC])
        refine freeM 16 rfl (by kernel_rfl) (by kernel_rfl) (by kernel_rfl) (fun K hK => ?_)
        refine sh_store1 HH9.out rfl rfl rfl 10 rfl (Nat.le_of_ble_eq_true rfl) rfl (by kernel_rfl) ?_
        intro w10 hh10
        have HH10 := Lib.hid hh10
        clear hh10 HH9
        refine hK.out _ _ ?_
        clear hK K
        (try simp only [Act.put, lyA, lyB, lyC])
        refine doneM (by kernel_rfl) ?_
        refine ⟨by first | trivial | rfl, _, ⟨A9', c9', os ++ [⟨key, ⟨A5, dat.length, c5, dat⟩, ⟨B5, at_.length, d5, at_⟩⟩], S7, L7, rfl, ?_, ?_, ?_⟩, ?_⟩
        · rw [List.length_append, List.length_singleton, HKp.out, HTo.out, List.map_append, HOs.out]; rfl
        · intro o ho
          rcases List.mem_append.1 ho with ho | ho
          · exact (HOi.out o ho).more HM7.out.2.2
          · simp only [List.mem_singleton] at ho
            subst ho
            refine ⟨by simp only [maxLen]; show key.size ≤ _; omega, ⟨rfl, q3, q4, HM7.out.1⟩, rfl, q1, q2, HM7.out.2.1, fun y hy => ?_⟩
            have hyb := HOj.out.lo y.toNat (List.mem_map_of_mem (f := Int.toNat) hy)
            have hy9 : y.toNat < 8193 := by
              have h1 := hyb.2.1
              have h2 := HSs.out.len
              have h3 : sn = a.S.length := HLn.out
              dsimp only at h2
              omega
            have hyn : 0 ≤ y := by
              have h1 := HBk.out
              rw [← h1] at hy
              obtain ⟨z, _, rfl⟩ := List.mem_map.1 hy
              exact Int.natCast_nonneg z
            simp only [Lit.wf, Bool.and_eq_true, decide_eq_true_eq]
            constructor
            · show (-9223372036854775808 : Int) ≤ y; omega
            · show y ≤ (9223372036854775807 : Int); omega
        · exact fun q hq => HM7.out.2.2 _ (HLL.out _ hq)
        · rw [List.length_append, List.length_singleton, HKp.out, List.flatMap_append, List.flatMap_singleton]
          exact HH10.out
      case done =>
        rintro D y xs L9 W rfl ⟨A, c, os, S', L', rfl, hos, hoi, hLL⟩ H
        clear HH
        rw [List.length_range, HN.out] at H hos
        rw [List.take_length] at hos
        have hol : os.length = a.O.length := by rw [← hos, List.length_map]
        have HH := Lib.hid H
        have HOs := Lib.hid hos
        have HOi := Lib.hid hoi
        have HLL := Lib.hid hLL
        have HOl := Lib.hid hol
        clear H hos hoi hLL hol
        (try simp only [Exit.inBlock, Exit.then])
        have HSt := Lib.hid (fun (W : World) (its : List It) (i j k : Nat) (hW : Heap w its W) (hi : its[i]? = some (It.look (fun W => Dev.At W wc.heap.size tb ⟨⟨eA, en, ec, ex⟩, ⟨none, 0, 0, []⟩⟩) wc.heap.size tb (fun _ _ hr hh => hh.imp hr))) (hj : its[j]? = some (It.bag S' L')) (hk : its[k]? = some (.row 35 3 (.slice A a.O.length c) a.O.length (os.flatMap Ob.cells))) =>
          show Sto.At W w.heap.size W.heap.size ⟨⟨⟨eA, en, ec, ex⟩, ⟨none, 0, 0, []⟩⟩, ⟨ut, uf, uo⟩, ⟨A, a.O.length, c, os⟩, ⟨B9, qs.length, d9, a.X⟩⟩ from
          ⟨(hW.lookAt i hi).2.imp fun _ _ hr => hr.more HLe.out (hW.lookAt i hi).1, HUW.out, ⟨HOl.out.symm, (own_form2 (hW.rowAt k hk)).1, (own_form2 (hW.rowAt k hk)).2, hW.rowRd k hk, fun o ho => (HOi.out o ho).at_ hW hj⟩, ⟨by show qs.length = a.X.length; rw [HQs.out, natL, List.length_map], p1, p2, by rw [ints_flat]; exact hW.bagRd hj (HLL.out _ HL0.out.2.1), fun y hy => by
            have h1 := HOk.out.lo y (List.mem_append_left _ hy)
            simp only [Lit.wf, Bool.and_eq_true, decide_eq_true_eq]
            constructor
            · show (-9223372036854775808 : Int) ≤ y; omega
            · show y ≤ (9223372036854775807 : Int); omega⟩⟩)
        have HAb := Lib.hid (show (⟨⟨⟨eA, en, ec, ex⟩, ⟨none, 0, 0, []⟩⟩, ⟨ut, uf, uo⟩, ⟨A, a.O.length, c, os⟩, ⟨B9, qs.length, d9, a.X⟩⟩ : Sto).abs = a from abs_eq HV2.out HAU.out.symm HOs.out rfl)
        go_wp2_with (refine shl_load HH.out sizeSto (by kernel_rfl) rfl rfl rfl 9 rfl rfl ?_)
        refine (HSc.out _ _ ((HSt.out _ _ 11 5 2 HH.out rfl rfl rfl).imp fun _ _ hr => hr.m0) HAb.out rfl).mono ?_
        rintro e w9 ⟨rfl, e9⟩
        have HH9 := Lib.hid (HH.out.later e9)
        clear HH e9
        have HH := HH9
        clear HH9
        go_wp2_with (first | (go_at_call 59; (refine (sneed_true _ _).mono ?_); rintro e wN ⟨rfl, rfl⟩) | (refine shl_load HH.out sizeSto (by kernel_rfl) rfl rfl rfl 9 rfl rfl ?_) | (refine shl_store HH.out sizeSto rfl rfl rfl rfl 14 rfl rfl rfl rfl ?_; clear HH; intro wS HHS; have HH := Lib.hid HHS; clear HHS) | (refine shl_store1 HH.out rfl rfl rfl rfl 13 rfl rfl rfl (by kernel_rfl) ?_; clear HH; intro wS HHS; have HH := Lib.hid HHS; clear HHS))
        refine ⟨by simp, .inl ⟨_, _, rfl, run_takeDeferred (HH.out.objAt 1 rfl), ?_⟩⟩
        have H2 := HH.out.putObj 1 rfl (.deferred none)
        refine op_leave H2 14 13 rfl rfl rfl rfl rfl ?_
        intro w10 h10
        exact ⟨⟨⟨⟨eA, en, ec, ex⟩, ⟨none, 0, 0, []⟩⟩, ⟨ut, uf, uo⟩, ⟨A, a.O.length, c, os⟩, ⟨B9, qs.length, d9, a.X⟩⟩, rfl, HAb.out, rfl, HSt.out _ _ 11 5 2 h10 rfl rfl rfl, h10.ext⟩
end Go.Proofs.YtfongpdeflfioaaGreat
