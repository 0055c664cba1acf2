/- The texts Sbl, Sbk, Max, Bulk in one file. -/
import Derived.Test.YtmecjjmlccdppaaGreatDoorM32
import Derived.Test.YtmecjjmlccdppaaGreatDoorM24
import Derived.Test.YtmecjjmlccdppaaGreatDoorM18
import Derived.Test.YtmecjjmlccdppaaGreatDoorM15
import Derived.Test.YtmecjjmlccdppaaGreatDoorTie
import Derived.Test.YtmecjjmlccdppaaGreatDoorCards
import Derived.ProofKit
import Derived.OpenShut
import Derived.Lay
import Derived.Shelf.Vars
import Derived.Deep.DeepHandedRow
import Derived.Deep.CondSized
import Derived.Stop.Joined
import Derived.SevenTiedAt
import Derived.Test.YtmecjjmlccdppaaGreatDoorRows
/- StagingBack: what its calls are asked with. -/
namespace Go.Proofs.YtmecjjmlccdppaaGreatDoor
open Go.RowKit
set_option linter.unusedVariables false
set_option linter.unusedSimpArgs false

theorem Snp.ok.ext {w w' : World} {x : Snp} (h : x.ok w) (e : Ext w w') : x.ok w' := ⟨h.rd.ext e, h.bodyM, h.bodyC, h.bodyW, h.ownM, h.name, h.guid, h.props⟩
theorem It.lower {x : It} {base base' : Nat} {w : World} (h : x.holds base w) (hb : base' ≤ base) : x.holds base' w := by
  cases x with
  | box b vs => exact ⟨Nat.le_trans hb h.1, h.2⟩
  | row e size v n xs => exact own_lower h hb
  | rd A cs =>
    intro hn
    obtain ⟨b, o, he, h1, h2, h3⟩ := h hn
    exact ⟨b, o, he, h1, Nat.le_trans hb h2, h3⟩
  | any S p lt keep => exact ⟨fun k hk => Nat.le_trans hb (h.1 k hk), h.2⟩
theorem It.at_ge {x : It} {base k : Nat} {w : World} (h : x.holds base w) (ha : x.at' k) : base ≤ k := by
  cases x with
  | box b vs => cases ha; exact h.1
  | row e size v n xs => exact (World.ownsRow.lt h k ha).1
  | rd A cs =>
    obtain ⟨hn, a, rfl, rfl⟩ := ha
    obtain ⟨b, o, he, h1, h2, h3⟩ := h hn
    cases he
    exact h2
  | any S p lt keep => exact h.1 k ha
theorem Heap.join1 {w0 w w' : World} {its : List It} {b n : Nat} {vs cs : List Value} (H : Heap w0 its w) (H2 : Heap w ([It.box b vs].set 0 (.box b (vs.take 0 ++ cs ++ vs.drop (0 + n)))) w') (hl : vs.length = n) : Heap w0 (.box b cs :: its) w' := by
  have he : vs.take 0 ++ cs ++ vs.drop (0 + n) = cs := by rw [List.take_zero, List.nil_append, Nat.zero_add, List.drop_of_length_le (by omega), List.append_nil]
  rw [he] at H2
  have h2 := H2.all 0 _ rfl
  exact H.add H2.ext ⟨Nat.le_trans H.ext.size h2.1, h2.2⟩ fun k hk => by cases hk; exact h2.1
/-- what a call told among its own items, beside those that were -/
theorem Heap.join {w0 w w' : World} {its its2 : List It} (H : Heap w0 its w) (H2 : Heap w its2 w') : Heap w0 (its2 ++ its) w' := by
  have hl := H.later H2.ext
  refine ⟨hl.ext, fun i x hx => ?_, fun i j x y k hij hx hy ho ha => ?_⟩
  · by_cases h1 : i < its2.length
    · rw [List.getElem?_append_left h1] at hx
      exact It.lower (H2.all i x hx) H.ext.size
    · rw [List.getElem?_append_right (by omega)] at hx
      exact hl.all _ x hx
  · by_cases h1 : i < its2.length
    · rw [List.getElem?_append_left h1] at hx
      by_cases h2 : j < its2.length
      · rw [List.getElem?_append_left h2] at hy
        exact H2.apart i j x y k hij hx hy ho ha
      · rw [List.getElem?_append_right (by omega)] at hy
        have a1 := It.at_ge (H2.all i x hx) (It.own_at ho)
        have a2 := It.at_lt (H.all _ y hy) ha
        omega
    · rw [List.getElem?_append_right (by omega)] at hx
      by_cases h2 : j < its2.length
      · rw [List.getElem?_append_left h2] at hy
        have a1 := It.at_ge (H2.all j y hy) ha
        have a2 := It.at_lt (H.all _ x hx) (It.own_at ho)
        omega
      · rw [List.getElem?_append_right (by omega)] at hy
        exact H.apart _ _ x y k (fun e => hij (by omega)) hx hy ho ha
theorem srt_len : ∀ (xs : List Blk) (n : Int), Srt xs → (∀ x ∈ xs, n ≤ x.index) → n ≤ 1024 → n + xs.length ≤ 1024
  | [], n, _, _, h => by simpa using h
  | x :: l, n, hs, hn, h => by
    obtain ⟨h1, h2, h3⟩ := srt_cons.1 hs
    have ih := srt_len l (x.index + 1) h3 (fun y hy => by have := h2 y hy; omega) (by omega)
    have := hn x (by simp)
    simp only [List.length_cons]
    omega
theorem z_ok {W : World} {z X : Stg} {r0 : Rec} (h0 : r0.wf) (hs0 : (sumR r0).wf) (hb : z.bare = X) (hr : z.rd W) (hi : X.into = ⟨#[120]⟩) (hbeg : X.beg = r0.bare) (hS : stE X = 0) (hsu : X.su.wf) : z.ok W := by
  subst hb
  obtain ⟨s1, s2, s3⟩ := stg_bounds _ hS
  have hsr := srt_of s1
  have hln := srt_len _ 0 hsr (fun x hx => (hsr.2 x hx).1) (by decide)
  have e : z.beg.bare = r0.bare := hbeg
  have hon := hr.begL
  have hbm := hr.begN
  refine ⟨?_, ?_, hr.begR, hbm, ?_, hr.bodyN, ?_, hr.bodyR, fun y hy => ?_, ?_, ?_, hsu⟩
  · have : z.into = ⟨#[120]⟩ := hi
    rw [this]
    decide
  · have e1 := congrArg Rec.frm e
    have e2 := congrArg Rec.guid e
    have e3 := congrArg Rec.index e
    have e4 := congrArg Rec.count e
    have e5 := congrArg Rec.kind e
    have e6 := congrArg Rec.name e
    have e7 := congrArg Rec.data e
    have e8 := congrArg Rec.own e
    simp only [Rec.bare] at e1 e2 e3 e4 e5 e6 e7 e8
    exact ⟨by rw [e1]; exact h0.frm, by rw [e2]; exact h0.guid, by rw [e3]; exact h0.index, by rw [e4]; exact h0.count, by rw [e5]; exact h0.kind, by rw [e6]; exact h0.name, by rw [e7]; exact h0.data, hon, by omega, by rw [e8]; exact h0.props⟩
  · have h9 := congrArg sumR e
    have : sumR z.beg = sumR r0 := h9
    rw [this]
    exact hs0
  · have h1 := hr.bodyN
    have h2 : z.bare.body.length = z.body.length := rfl
    omega
  · have := hsr.2 y hy
    exact ⟨by omega, by omega, by omega⟩
  · have h1 : 0 ≤ z.pos ∧ z.pos ≤ 1099511627776 := s2
    omega
  · have h1 : 0 ≤ z.next ∧ z.next ≤ 1099511627776 := s3
    omega
theorem mk0_wf {w : World} {x y : Snp} (full : Bool) (hx : x.ok w) (hy : y.ok w) : (mk0 x y full).wf := by
  have h1 := hx.guid
  have h2 := hy.guid
  have h3 := hy.ownM
  have h4 := hy.name
  refine ⟨?_, ?_, ?_, ?_, ?_, ?_, ?_, hy.rd.ownN, ?_, hy.props⟩
  · show -9223372036854775808 ≤ mkSrc x full ∧ mkSrc x full ≤ 9223372036854775807
    unfold mkSrc
    cases full
    · exact h1
    · exact (by decide : -9223372036854775808 ≤ (0 : Int) ∧ (0 : Int) ≤ 9223372036854775807)
  · exact h2
  · show -9223372036854775808 ≤ (0 : Int) ∧ (0 : Int) ≤ 9223372036854775807
    decide
  · show -9223372036854775808 ≤ (0 : Int) ∧ (0 : Int) ≤ 9223372036854775807
    decide
  · show -9223372036854775808 ≤ (1 : Int) ∧ (1 : Int) ≤ 9223372036854775807
    decide
  · show y.name.size ≤ _
    omega
  · show (⟨#[]⟩ : ByteArray).size ≤ _
    decide
  · show y.on ≤ _
    omega
theorem mk_any (w : World) (x y : Snp) (full : Bool) (hx : x.ok w) (hy : y.ok w) : Calls Tryz.prog 20 #[.agg x.cells.toArray, .agg y.cells.toArray, .bool full] w (MakeOut w x y full) := by
  have hd : (∀ r ∈ dfL (mkBase x full) y.body, recE r = 0 ∧ r.wf ∧ (sumR r).wf ∧ r.oA = none ∧ r.on = 0) ∧ (dfL (mkBase x full) y.body).length ≤ 100000000 := by
    by_cases h : dfE (mkBase x full) y.body = 0
    · have hl := dfL_any _ _ h
      refine ⟨fun r hr => ?_, by have := hl.num; omega⟩
      obtain ⟨a1, a2, a3, a4, a5, _⟩ := okR_rec (hl.ok r hr)
      exact ⟨a1, a2, a3, a4, a5⟩
    · rw [dfL, if_neg h]
      exact ⟨fun r hr => (by cases hr), Nat.zero_le _⟩
  exact make_any w x y full hx hy hd.1 hd.2 (mk0_wf full hx hy)
theorem rsL_len {x y : Snp} {full : Bool} (h : MkOk x y full) : (rsL x y full).length ≤ 1026 := by
  have hl := (dfL_any _ _ h.dif).num
  simp [rsL]
  omega
/-- Snap of what came to be: the law's last lines -/
theorem snap_all {x y : Snp} {full : Bool} {z : Stg} {nx : Int} {su : Su} {fs : List Prp} {W : World} (h : MkOk x y full) (ho : y.on = y.own.length) (hb : Srt y.body) (hp : (0 : Int) ≤ ((mkB x y full).length : Int)) (hn : 0 ≤ nx ∧ nx ≤ 1024)
    (hz : z.bare = XX (mk0 x y full) y.body ((mkB x y full).length : Int) nx su true) (hr : z.rd W) : snapE z fs = ovE [y.own, fs] ∧ (snapE z fs = 0 → snapA z fs = ⟨y.name, y.guid, none, 0, 0, y.body, none, 0, 0, [], none, 0, 0, ovL [y.own, fs]⟩) := by
  have hL := h.len
  have hS : stE z = 0 := by
    have h1 : stE z = stE (XX (mk0 x y full) y.body ((mkB x y full).length : Int) nx su true) := by
      have hk : recE z.beg = recE (mk0 x y full).bare := recE_of (show z.beg.bare = (mk0 x y full).bare from congrArg Stg.beg hz) hr.begL (.inl rfl)
      have e1 : z.into = ⟨#[120]⟩ := congrArg Stg.into hz
      have e2 : z.body = y.body := congrArg Stg.body hz
      have e3 : z.pos = ((mkB x y full).length : Int) := congrArg Stg.pos hz
      have e4 : z.next = nx := congrArg Stg.next hz
      have e5 : z.beg.kind = 1 := congrArg (fun s => s.beg.kind) hz
      unfold stE stB
      rw [hk, e1, e2, e3, e4, e5]
      rfl
    rw [h1]
    exact xx_ok rfl (recE_bare _ h.beg ho) hb ⟨hp, by omega⟩ ⟨hn.1, by omega⟩
  have e5 : z.done = true := congrArg Stg.done hz
  have e6 : z.beg.own = y.own := congrArg (fun s => s.beg.own) hz
  have e7 : z.beg.name = y.name := congrArg (fun s => s.beg.name) hz
  have e8 : z.beg.guid = y.guid := congrArg (fun s => s.beg.guid) hz
  have e9 : z.body = y.body := congrArg Stg.body hz
  have hE : snapE z fs = ovE [y.own, fs] := by
    unfold snapE
    rw [if_neg (by rw [hS]; simp), e5, if_neg (by simp), e6]
  refine ⟨hE, fun h0 => ?_⟩
  rw [snapA, if_pos h0, e6, e7, e8, e9]
/-- the record at a place, as it was read -/
structure SbRec (ys : List Rec) (k : Nat) (r q : Rec) : Prop where
  at' : ys[k]? = some q
  bare : q.bare = r.bare
  on : q.on = r.on
  wf : q.wf
  sum : (sumR q).wf
theorem sb_rec {x y : Snp} {full : Bool} (h : MkOk x y full) (ho : y.on = y.own.length) {ys : List Rec} (hb : ys.map Rec.bare = (rsL x y full).map Rec.bare) (hr : RdOk ys) (k : Nat) (hk : k < (rsL x y full).length) : ∃ q, SbRec ys k (rsL x y full)[k] q := by
  have hl : ys.length = (rsL x y full).length := by simpa using congrArg List.length hb
  have hk' : k < ys.length := by omega
  have e : ys[k].bare = (rsL x y full)[k].bare := by
    have := congrArg (fun l => l[k]?) hb
    simpa [hk, hk'] using this
  obtain ⟨a1, a2, a3⟩ := hr.all _ (List.getElem_mem hk')
  obtain ⟨_, _, b3⟩ := rsL_ok h ho _ (List.getElem_mem hk)
  have h4 := congrArg (fun z : Rec => z.own.length) e
  have h5 : ys[k].own.length = (rsL x y full)[k].own.length := h4
  exact ⟨ys[k], by simp [hk'], e, by omega, a2, a3⟩
theorem rec_cells {w : World} {lo hi : Nat} {A : Option Addr} {ys : List Rec} {k : Nat} {q : Rec} (h : Rd w lo hi A (recs ys)) (hq : ys[k]? = some q) : ∃ b o, A = some ⟨b, o, none⟩ ∧ ∀ j u, q.cells[j]? = some u → w.cell? ⟨b, o + k * 12 + j, none⟩ = some u := by
  obtain ⟨hk, e⟩ := List.getElem?_eq_some_iff.1 hq
  obtain ⟨b, o, h1, _, _, G⟩ := rd_flat (cells := Rec.cells) (size := 12) (fun _ => rfl) (by omega) h hk
  rw [e] at G
  exact ⟨b, o, h1, G⟩
theorem rds_at {ys : List Rec} {k : Nat} {q : Rec} (h : ys[k]? = some q) : (rdsOf ys)[k]? = some (.rd q.oA (prps q.own)) := by
  simp [rdsOf, h]
theorem start_rec {into : ByteArray} {q r : Rec} {base : List Blk} {raw : Int} (h : q.bare = r.bare) (ho : q.on = r.on) : startE into q base raw = startE into r base raw ∧ startA into q base raw = startA into r base raw := by
  obtain ⟨kind, name, frm, guid, oA, on, oc, own, index, count, data, s0, s1, s2, s3⟩ := q
  obtain ⟨kind', name', frm', guid', oA', on', oc', own', index', count', data', t0, t1, t2, t3⟩ := r
  simp only [Rec.bare, Rec.mk.injEq] at h
  obtain ⟨rfl, rfl, rfl, rfl, -, -, -, rfl, rfl, rfl, rfl, rfl, rfl, rfl, rfl⟩ := h
  dsimp only at ho
  subst ho
  exact ⟨rfl, rfl⟩
theorem rl_on {x y : Snp} {full : Bool} (h : MkOk x y full) : ∀ r ∈ dfL (mkBase x full) y.body ++ [sumRec (mkPre x y full).2], r.on = 0 := by
  intro r hr
  rcases List.mem_append.1 hr with hr | hr
  · exact (okR_rec ((dfL_any _ _ h.dif).ok r hr)).2.2.2.2.1
  · rw [List.mem_singleton.1 hr]
    rfl
section
variable {P : Program} {w : World} {o' : Oper} {a : Act}
theorem rd_run_load {t : TypeId} {x : Operand} {b o n : Nat} {cs : List Value} (hc : ∀ j u, cs[j]? = some u → w.cell? ⟨b, o + j, none⟩ = some u) (hn : cs.length = n) (hs : (P.info? t).map (·.size) = some n) (hk : rowK P t = some true) (ho : o'.op = .load t x) (hx : a.eval x = .pointer (some ⟨b, o, none⟩)) :
    (execOp a.eval o').run P w = .ok (.value (.agg cs.toArray)) w := by
  subst hn
  have hc := run_loadCells_list (P := P) w ⟨b, o, none⟩ cs (fun j u hu => by rw [add_lit]; exact hc j u hu)
  unfold execOp
  simp [ho, hx, Instr.loadAt, Instr.sureAddr, loadVar, run_isAgg_of hk, sizeOf_run hs, hc]
end
end Go.Proofs.YtmecjjmlccdppaaGreatDoor
/- StagingBack: the law's walk. -/
namespace Go.Proofs.YtmecjjmlccdppaaGreatDoor
open Go.RowKit
set_option linter.unusedVariables false
set_option linter.unusedSimpArgs false

/-- the stage on its way: what is left to be taken, and what comes of it -/
structure SbRel (w3 : World) (r0 : Rec) (F : Stg) (rl : List Rec) (bs k : Nat) (X z : Stg) (wr : World) : Prop where
  tk : Tk X (rl.drop k)
  fin : (rl.drop k).foldl stakeA X = F
  into : X.into = ⟨#[120]⟩
  beg : X.beg = r0.bare
  su : X.su.wf
  bare : z.bare = X
  rd : z.rd wr
  heap : Heap w3 [.box bs z.cells] wr
theorem sb_next {w3 : World} {r0 : Rec} {F : Stg} {rl : List Rec} {bs k : Nat} {X z : Stg} {wr : World} (h : SbRel w3 r0 F rl bs k X z wr) (hk : k < rl.length) (h0 : r0.kind = 1) (q : Rec) (hq : q.bare = rl[k].bare) (ho : q.on = rl[k].on) :
    stE X = 0 ∧ stakeE z q = 0 ∧ stakeA z q = stakeA X rl[k] ∧ Tk (stakeA X rl[k]) (rl.drop (k + 1)) ∧ (rl.drop (k + 1)).foldl stakeA (stakeA X rl[k]) = F ∧ (stakeA X rl[k]).into = ⟨#[120]⟩ ∧ (stakeA X rl[k]).beg = r0.bare ∧ (stakeA X rl[k]).su.wf := by
  have ht := h.tk
  have hf := h.fin
  rw [List.drop_eq_getElem_cons hk] at ht hf
  obtain ⟨t1, t2⟩ := ht
  obtain ⟨a1, a2⟩ := stakeA_bare (x := z) (y := X) (by rw [h.bare, ← h.bare]; rfl) h.rd.begL (by rw [h.beg]; rfl) (by rw [h.beg]; exact h0) q
  obtain ⟨b1, b2⟩ := stakeA_rec (x := X) hq ho
  have hS : stE X = 0 := by
    unfold stakeE at t1
    by_cases hh : stE X = 0
    · exact hh
    · rw [if_pos hh] at t1; exact absurd t1 hh
  have hA : stakeA X rl[k] = ⟨X.into, X.beg.bare, none, 0, 0, stakeBody X rl[k], X.pos + ((encB rl[k]).length : Int), if rl[k].kind = 2 then rl[k].index + 1 else if rl[k].kind = 3 then rl[k].index + rl[k].count else X.next,
    if rl[k].kind = 4 then X.su else feed X.su (encB rl[k]), rl[k].kind == 4⟩ := by rw [stakeA, if_pos t1]
  refine ⟨hS, by rw [a1, b1]; exact t1, by rw [a2, b2], t2, hf, ?_, ?_, ?_⟩
  · rw [hA]; exact h.into
  · rw [hA]
    show X.beg.bare = r0.bare
    rw [h.beg]
    rfl
  · rw [hA]
    dsimp only
    split
    · exact h.su
    · exact feed_wf _ _ h.su
set_option maxRecDepth 100000 in
set_option maxHeartbeats 16000000 in
theorem sback_any (w : World) (hM : MaxV w) (x y : Snp) (full : Bool) (fA : Option Addr) (fn fc : Nat) (fs : List Prp) (hx : x.ok w) (hy : y.ok w) (hf : PlOk w ⟨fA, fn, fc, fs⟩) :
    Calls Tryz.prog 6 #[.agg x.cells.toArray, .agg y.cells.toArray, .bool full, .slice fA fn fc] w fun e w' => e = .returned (.bool true) ∧ Ext w w' := by
  have HAl := Lib.hid (fun W (hW : Ext w W) => alive_any W (hM.ext hW))
  have HMk := Lib.hid (fun W (hW : Ext w W) => mk_any W x y full (hx.ext hW) (hy.ext hW))
  have HNu := Lib.hid (fun W a => (num_any W a).mono fun e w' h => show e = .returned (.int .i64 a) ∧ Ext W w' from ⟨h.1, by rw [h.2]; exact Ext.refl _⟩)
  have HX := Lib.hid hx
  have HY := Lib.hid hy
  have HF := Lib.hid hf
  have HM := Lib.hid hM
  clear hx hy hf hM
  have hxb : ∀ W, Ext w W → True := fun _ _ => trivial
  go_enter Tryz.func6, Tryz.ntmps6
  go_upto_region 1 with fail
  generalize hwH : World.alloc (World.alloc w _) _ = w1; have HH := Lib.hid (Heap.two hwH); clear hwH
  go_upto_region 3 with (go_at_call 15; (with_reducible refine (HAl.out _ HH.out.ext).mono ?_); rintro e wC ⟨rfl, eC⟩; have HHn := Lib.hid (HH.out.later eC); clear HH eC; have HH := HHn; clear HHn)
  go_wp2_with (first | (refine shl_load HH.out sizeSnp (by kernel_rfl) rfl rfl rfl 1 rfl rfl ?_) | (refine shl_load HH.out sizeSnp (by kernel_rfl) rfl rfl rfl 0 rfl rfl ?_))
  refine (HMk.out _ HH.out.ext).mono ?_
  intro e w2 hmk
  obtain ⟨v, l, rfl, hl, hown, e2⟩ := hmk
  obtain ⟨Av, cv, rfl, k1, k2, _⟩ := own_form hown
  have HH2 := Lib.hid (HH.out.addRow e2 hown)
  clear HH e2 hown HMk
  have HH := HH2
  clear HH2
  by_cases hE : mkE x y full = 0
  · have hok := mk_ok hE
    obtain ⟨L, hL⟩ : ∃ L, L = mkB x y full := ⟨_, rfl⟩
    obtain rfl : l = L := (hl hE).trans hL.symm
    obtain ⟨n, hn⟩ : ∃ n, n = l.length := ⟨_, rfl⟩
    have hnM : n ≤ 32768 := by rw [hn, hL]; exact hok.len
    rw [hE, ← hn]
    rw [← hn] at HH k1
    have hrsl := rsL_len hok
    have hRc := records_any w2 Av n cv l (rsL x y full) (by rw [hL]; exact mkB_rsL x y full) hn hnM k1 (by simp only [maxLen] at k2; omega) ((Rd.of_own (HH.out.rowAt 0 rfl)).more (Nat.zero_le _) (Nat.le_refl _)) (rsL_ok hok HY.out.rd.ownN) (by omega) (sq_all hok)
    have HRc := Lib.hid hRc
    have HOK := Lib.hid hok
    have HL := Lib.hid hL
    have HN := Lib.hid hn
    have hE' := hE
    clear hl hRc hok hL hn hE' hE k2
    go_wp2_with fail
    refine HRc.out.mono ?_
    rintro e w3 ⟨v3, ys, rfl, hbare, hrok, h3⟩
    obtain ⟨A3, c3, rfl, k31, k32, _⟩ := own_form (h3.rowAt 0 rfl)
    obtain ⟨rl, hrl⟩ : ∃ rl, rl = dfL (mkBase x full) y.body ++ [sumRec (mkPre x y full).2] := ⟨_, rfl⟩
    have hrs : rsL x y full = mk0 x y full :: rl := by rw [hrl]; rfl
    have hlen : ys.length = rl.length + 1 := by have := congrArg List.length hbare; rw [hrs] at this; simpa using this
    have HRec := Lib.hid (fun k (hk : k < (rsL x y full).length) => sb_rec HOK.out HY.out.rd.ownN hbare hrok k hk)
    obtain ⟨y0, hy0⟩ := HRec.out 0 (by rw [hrs]; simp)
    have hy0' : SbRec ys 0 (mk0 x y full) y0 := by
      have e : (rsL x y full)[0]'(by rw [hrs]; simp) = mk0 x y full := by simp only [hrs, List.getElem_cons_zero]
      rwa [e] at hy0
    have HRl := Lib.hid (fun k (hk : k < rl.length) => show ∃ q, SbRec ys (k + 1) rl[k] q from by
      obtain ⟨q, hq⟩ := HRec.out (k + 1) (by rw [hrs]; simp; exact hk)
      have e : (rsL x y full)[k + 1]'(by rw [hrs]; simp; exact hk) = rl[k] := by simp only [hrs, List.getElem_cons_succ]
      rw [e] at hq
      exact ⟨q, hq⟩)
    have HRo := Lib.hid (fun k (hk : k < rl.length) => show rl[k].on = 0 from by
      have h : ∀ r ∈ rl, r.on = 0 := by rw [hrl]; exact rl_on HOK.out
      exact h _ (List.getElem_mem hk))
    have HTA := Lib.hid (take_all HOK.out HY.out.rd.ownN)
    rw [← hrl] at HTA
    have HSA := Lib.hid (start_all HOK.out HY.out.rd.ownN)
    have HE3 := Lib.hid (HH.out.ext.trans h3.ext)
    have HO := Lib.hid (HH.out.later h3.ext)
    have H3 := Lib.hid h3
    have Hrs := Lib.hid hrs
    have Hlen := Lib.hid hlen
    have Hrl := Lib.hid hrl
    obtain ⟨m, hm⟩ : ∃ m, m = ys.length := ⟨_, rfl⟩
    rw [← hm] at k31 ⊢
    have hm1 : 1 ≤ m := by omega
    have hm2 : m ≤ 1026 := by
      have := rsL_len HOK.out
      rw [hrs, List.length_cons] at this
      omega
    have Hm := Lib.hid hm
    have HB := Lib.hid hbare
    clear h3 hbare hrok hrl hrs hlen HRec hy0 hm HH HRc
    have f2 : w3.cell? ⟨w.heap.size, 2, none⟩ = some (.slice x.bA x.bn x.bc) := (HO.out.boxAt 2 rfl).cell 2 _ rfl
    have hz0 : ((m : Int) == 0) = false := by simp; omega
    have hfs : full = true ∨ full = false := by cases full <;> simp
    obtain ⟨bA, bn, bc, hbn, hbN, hbR, hbM, hbw⟩ : ∃ (bA : Option Addr) (bn bc : Nat), Value.slice bA bn bc = (if full then .slice none 0 0 else .slice x.bA x.bn x.bc) ∧ bn = (mkBase x full).length ∧ Rd w 0 w.heap.size bA (blks (mkBase x full)) ∧ bn ≤ 100000000 ∧ ∀ b ∈ mkBase x full, b.wf := by
      have hx := HX.out
      cases full
      · exact ⟨x.bA, x.bn, x.bc, rfl, hx.rd.bodyN, hx.rd.bodyR, hx.bodyM, hx.bodyW⟩
      · exact ⟨none, 0, 0, rfl, rfl, fun h => absurd rfl h, Nat.zero_le _, fun b hb => (by cases hb)⟩
    have HBA := Lib.hid hbn
    have HBN := Lib.hid hbN
    have HBR := Lib.hid hbR
    have HBW := Lib.hid hbw
    clear hbn hbN hbR hbw
    go_upto_if 47 with fail
    go_cut [14] from 14 to 14 (fun s wx => s = .slice bA bn bc ∧ w3 = wx)
    case first =>
      rcases hfs with rfl | rfl
      · go_wp2_with fail
        go_meet
        exact ⟨HBA.out.symm, rfl⟩
      · go_wp2_with fail
        go_meet
        exact ⟨HBA.out.symm, rfl⟩
    obtain ⟨rfl, rfl⟩ := hcut
    clear f2 hz0
    have hon0 : y0.on ≤ 100000000 := by rw [hy0'.on]; exact HY.out.ownM
    have hr0 : Rd w3 0 w3.heap.size y0.oA (prps y0.own) := (H3.out.rdAt 1 (by rw [List.getElem?_cons_succ]; exact rds_at hy0'.at')).more (Nat.zero_le _) (Nat.le_refl _)
    have HSt := Lib.hid (fun W (hW : Ext w3 W) => show Calls Tryz.prog 7 #[.string ⟨#[120]⟩, .agg y0.cells.toArray, .slice bA bn bc, .int .i64 0] W fun e w' => ∃ z : Stg, e = .returned (.tuple #[.agg z.cells.toArray, .int .i64 0]) ∧ z.bare = startA ⟨#[120]⟩ (mk0 x y full) (mkBase x full) 0 ∧ z.rd w' ∧ Ext W w' from by
      have h := start_any W (HM.out.ext (HE3.out.trans hW)) ⟨#[120]⟩ (by decide) y0 (Rd.at hr0 hW (Nat.le_refl _)) hy0'.wf hon0 hy0'.sum bA bn bc (mkBase x full) HBN.out hbM (Rd.at HBR.out (HE3.out.trans hW) (Nat.le_refl _)) HBW.out 0 (by decide) (by decide)
      obtain ⟨s1, s2⟩ := start_rec (into := ⟨#[120]⟩) (base := mkBase x full) (raw := 0) hy0'.bare hy0'.on
      rw [s1, s2, HSA.out.1] at h
      exact h.mono (fun e w' q => by
        obtain ⟨z, h1, h2, h3, _, h5⟩ := q
        exact ⟨z, h1, h2, h3, h5⟩))
    obtain ⟨b3, o3, rfl, G⟩ := rec_cells (Rd.of_own (H3.out.rowAt 0 rfl)) hy0'.at'
    have HG := Lib.hid G
    have HY0 := Lib.hid hy0'
    clear G hy0' hon0 hr0
    obtain ⟨kind, name, frm, guid, oA, on, oc, own, index, count, data, s0, s1, s2, s3⟩ := y0
    have g0 := HG.out 0 _ rfl
    have g1 := HG.out 1 _ rfl
    have g2 := HG.out 2 _ rfl
    have g3 := HG.out 3 _ rfl
    have g4 := HG.out 4 _ rfl
    have g5 := HG.out 5 _ rfl
    have g6 := HG.out 6 _ rfl
    have g7 := HG.out 7 _ rfl
    have g8 := HG.out 8 _ rfl
    have g9 := HG.out 9 _ rfl
    have g10 := HG.out 10 _ rfl
    have g11 := HG.out 11 _ rfl
    simp only [Nat.zero_mul, Nat.add_zero] at g0 g1 g2 g3 g4 g5 g6 g7 g8 g9 g10 g11
    simp only [Rec.cells] at HSt
    go_upto_region 12 with fail
    go_wp2_with fail
    refine (HSt.out _ (Ext.refl _)).mono ?_
    rintro e w4 ⟨z, rfl, hz1, hz2, e4⟩
    clear g0 g1 g2 g3 g4 g5 g6 g7 g8 g9 g10 g11
    have HH := Lib.hid ((Heap.start w3).later e4)
    have HZ1 := Lib.hid hz1
    have HZ2 := Lib.hid hz2
    clear hz1 hz2 e4 HSt
    go_upto_region 13 with (refine shl_store ((Heap.start _).alloc _ _) sizeStg rfl rfl rfl rfl 0 rfl rfl rfl rfl ?_; intro wA HHS; have TwA := Lib.hid HHS.ext; have HHn := Lib.hid (HH.out.join1 HHS rfl); clear HH HHS; have HH := HHn; clear HHn)
    obtain ⟨bs, hbs⟩ : ∃ b, b = w4.heap.size := ⟨_, rfl⟩
    rw [← hbs] at HH ⊢
    clear hbs
    have hX0 := HSA.out.2
    have hrel0 : SbRel w3 (mk0 x y full) (rl.foldl stakeA (startA ⟨#[120]⟩ (mk0 x y full) (mkBase x full) 0)) rl bs 0 (startA ⟨#[120]⟩ (mk0 x y full) (mkBase x full) 0) z wA :=
      ⟨HTA.out.1, rfl, by rw [hX0]; rfl, by rw [hX0]; rfl, by rw [hX0]; exact feed_wf _ _ Su.zero_wf, HZ1.out, HZ2.out.ext TwA.out, HH.out⟩
    have HR0 := Lib.hid hrel0
    clear hrel0 hX0
    go_wp2_with fail
    go_loopw [13, 16] (fun f i wr => ∃ (k : Nat) (X z : Stg), f = .int .i64 0 ∧ i = .int .i64 ((k + 1 : Nat) : Int) ∧ k + 1 ≤ m ∧ Hid (SbRel w3 (mk0 x y full) (rl.foldl stakeA (startA ⟨#[120]⟩ (mk0 x y full) (mkBase x full) 0)) rl bs k X z wr)) (fun _ i _ => m - (intOf i).toNat)
    case atStart => exact ⟨0, _, z, rfl, rfl, hm1, HR0⟩
    case round =>
      clear HR0
      obtain ⟨k, X, z, rfl, rfl, hk, HRel⟩ := hrel
      by_cases hlt : k + 1 < m
      · have hkl : k < rl.length := by have := Hm.out; have := Hlen.out; omega
        obtain ⟨q, hq⟩ := HRl.out k hkl
        have HN9 := Lib.hid (sb_next HRel.out hkl rfl q hq.bare hq.on)
        have hzok : z.ok wr := z_ok (mk0_wf full HX.out HY.out) (by simp [Su.wf, sumR, mk0]) HRel.out.bare HRel.out.rd HRel.out.into HRel.out.beg HN9.out.1 HRel.out.su
        have HZok := Lib.hid hzok
        have hew : Ext w3 wr := HRel.out.heap.ext
        have HEw := Lib.hid hew
        have hqr : Rd wr 0 wr.heap.size q.oA (prps q.own) := Rd.at ((H3.out.rdAt (k + 1 + 1) (by rw [List.getElem?_cons_succ]; exact rds_at hq.at')).more (Nat.zero_le _) (Nat.le_refl _)) hew (Nat.le_refl _)
        have HTk := Lib.hid (fun W (hW : Ext wr W) => show Calls Tryz.prog 9 #[.agg z.cells.toArray, .agg q.cells.toArray] W (StOut W (stakeA X rl[k]) 0 true) from by
          have h := take_any W (HM.out.ext ((HE3.out.trans hew).trans hW)) z (hzok.ext hW) q (Rd.at hqr hW (Nat.le_refl _)) hq.wf (by rw [hq.on, HRo.out k hkl]; omega) hq.sum
          rwa [HN9.out.2.1, HN9.out.2.2.1] at h)
        obtain ⟨b4, o4, he4, G⟩ := rec_cells (Rd.of_own (H3.out.rowAt 0 rfl)) hq.at'
        cases he4
        have HG4 := Lib.hid (fun W (hW : Ext w3 W) j u (hu : q.cells[j]? = some u) => show W.cell? ⟨b3, o3 + (k + 1) * 12 + j, none⟩ = some u from by
          have h := G j u hu
          exact (Below.cell (p := ⟨b3, o3 + (k + 1) * 12 + j, none⟩) hW ((World.ownsRow.lt (H3.out.rowAt 0 rfl) b3 rfl).2)).trans h)
        have HH := Lib.hid HRel.out.heap
        clear G hq hzok hew hqr
        have hlt2 : decide (k + 1 < m) = true := by simpa using hlt
        go_upto_region 16 with fail
        have HHd := Lib.hid HH.out.drew
        have ed : Ext wr wr.drew := (Ext.refl wr).drew
        clear HH
        refine rgnM (fun k => Nat.blt k 6) (S := Heap w3 [_]) (by kernel_rfl) HHd.out (fun hHeld => ?_)
        generalize hwd : World.drew wr = wd at *
        clear hwd
        refine takeM 0 rfl (by kernel_rfl) (by kernel_rfl) (by kernel_rfl) (by kernel_rfl) (fun _ _ _ h => h) (by kernel_rfl) (fun wT hST => sh_run_load hST sizeStg (by kernel_rfl) rfl rfl 0 rfl (Nat.le_of_ble_eq_true rfl)) hHeld ?_; (try simp only [Act.put, List.setIfInBounds_toArray, List.set_cons_zero, List.set_cons_succ])
        refine takeM 1 (v := ?_) rfl (by kernel_rfl) (by kernel_rfl) (by kernel_rfl) (by kernel_rfl) (fun _ _ _ h => h) (by kernel_rfl) ?_ (by assumption) ?_; rotate_left; (focus (intro w hSw; (try dsimp only at hSw); (try go_split_ands); go_simp <;> with_reducible rfl)); (try simp only [Act.put, List.setIfInBounds_toArray, List.set_cons_zero, List.set_cons_succ])
        refine takeM 2 (v := ?_) rfl (by kernel_rfl) (by kernel_rfl) (by kernel_rfl) (by kernel_rfl) (fun _ _ _ h => h) (by kernel_rfl) ?_ (by assumption) ?_; rotate_left; (focus (intro w hSw; (try dsimp only at hSw); (try go_split_ands); go_simp <;> with_reducible rfl)); (try simp only [Act.put, List.setIfInBounds_toArray, List.set_cons_zero, List.set_cons_succ])
        have hk0 : (0 : Int) ≤ (k : Int) + 1 := by omega
        refine takeM 3 (v := ?_) rfl (by kernel_rfl) (by kernel_rfl) (by kernel_rfl) (by kernel_rfl) (fun _ _ _ h => h) (by kernel_rfl) ?_ (by assumption) ?_; rotate_left; (focus (intro w hSw; (try dsimp only at hSw); (try go_split_ands); go_simp <;> with_reducible rfl)); (try simp only [Act.put, List.setIfInBounds_toArray, List.set_cons_zero, List.set_cons_succ])
        clear hk0
        refine takeM 4 rfl (by kernel_rfl) (by kernel_rfl) (by kernel_rfl) (by kernel_rfl) (fun _ _ _ h => h) (by kernel_rfl) (fun wT hST => rd_run_load (HG4.out wT hST.ext) rfl sizeRec (by kernel_rfl) rfl rfl) hHeld ?_
        (try simp only [Act.put, List.setIfInBounds_toArray, List.set_cons_zero, List.set_cons_succ])
        refine oneM 5 rfl (by kernel_rfl) (by kernel_rfl) (fun K hK => ?_); (try go_simp)
        refine (HTk.out wd ed).mono ?_
        rintro e w5 ⟨z5, rfl, b5, d5, f5, e5⟩
        have HH5 := Lib.hid (HHd.out.addRd2 e5 (f5 rfl).1 (f5 rfl).2)
        have HB5 := Lib.hid b5
        have HD5 := Lib.hid d5
        clear HHd b5 d5 f5 e5
        go_wp2_with fail
        clear hHeld
        refine hK.out _ _ (HH5.out.only 2 rfl) (fun hHeld => ?_)
        clear hK K
        (try simp only [Act.put, List.setIfInBounds_toArray, List.set_cons_zero, List.set_cons_succ])
        refine pureM 6 (v := ?_) rfl (by kernel_rfl) (by kernel_rfl) (by kernel_rfl) (by kernel_rfl) (fun _ _ _ h => h) (by kernel_rfl) ?_ (fun _ => by assumption) ?_; rotate_left; (focus (intro w; go_simp <;> with_reducible rfl)); (try simp only [Act.put, List.setIfInBounds_toArray, List.set_cons_zero, List.set_cons_succ])
        refine pureM 7 (v := ?_) rfl (by kernel_rfl) (by kernel_rfl) (by kernel_rfl) (by kernel_rfl) (fun _ _ _ h => h) (by kernel_rfl) ?_ (fun _ => by assumption) ?_; rotate_left; (focus (intro w; go_simp <;> with_reducible rfl)); (try simp only [Act.put, List.setIfInBounds_toArray, List.set_cons_zero, List.set_cons_succ])
        refine pureM 8 (v := ?_) rfl (by kernel_rfl) (by kernel_rfl) (by kernel_rfl) (by kernel_rfl) (fun _ _ _ h => h) (by kernel_rfl) ?_ (fun _ => by assumption) ?_; rotate_left; (focus (intro w; go_simp <;> with_reducible rfl)); (try simp only [Act.put, List.setIfInBounds_toArray, List.set_cons_zero, List.set_cons_succ])
        refine freeM 9 rfl (by kernel_rfl) (by kernel_rfl) (by kernel_rfl) (fun K hK => ?_)
        refine sh_store HH5.out sizeStg rfl rfl rfl 2 rfl rfl (Nat.le_of_ble_eq_true rfl) rfl ?_
        intro w6 hh6
        have HH6 := Lib.hid (show Heap w3 [.rd z5.beg.oA (prps z5.beg.own), .rd z5.bA (blks z5.body), .box bs z5.cells] w6 from hh6)
        clear hh6 HH5
        refine hK.out _ _ ?_
        clear hK K hHeld
        (try simp only [Act.put, List.setIfInBounds_toArray, List.set_cons_zero, List.set_cons_succ])
        refine freeM 10 rfl (by kernel_rfl) (by kernel_rfl) (by kernel_rfl) (fun K hK => ?_); (try go_simp)
        refine hK.out _ _ ?_
        clear hK K
        (try simp only [Act.put, List.setIfInBounds_toArray, List.set_cons_zero, List.set_cons_succ])
        refine doneM (by kernel_rfl) ?_
        have HF5 := Lib.hid (show SbRel w3 (mk0 x y full) (rl.foldl stakeA (startA ⟨#[120]⟩ (mk0 x y full) (mkBase x full) 0)) rl bs (k + 1) (stakeA X rl[k]) z5 w6 from
          ⟨HN9.out.2.2.2.1, HN9.out.2.2.2.2.1, HN9.out.2.2.2.2.2.1, HN9.out.2.2.2.2.2.2.1, HN9.out.2.2.2.2.2.2.2, HB5.out, ⟨(HH6.out.rdAt 0 rfl).more (Nat.zero_le _) (Nat.le_refl _), HD5.out.begL, HD5.out.begN, HD5.out.bodyN, HD5.out.bodyM, (HH6.out.rdAt 1 rfl).more (Nat.zero_le _) (Nat.le_refl _)⟩, HH6.out.only 2 rfl⟩)
        go_wp2_with fail
        go_roundw
        case rel => exact ⟨k + 1, _, z5, rfl, by go_num, by omega, HF5⟩
        case measure => (first | (simp [intOf]; done) | (simp [intOf]; omega))
      · have hkm : m = k + 1 := by omega
        have hkl : rl.length ≤ k := by have := Hm.out; have := Hlen.out; omega
        obtain ⟨nx, hF, hnx⟩ := HTA.out.2
        have hXF : X = XX (mk0 x y full) y.body ((mkB x y full).length : Int) nx (mkPre x y full).2 true := by
          have h := HRel.out.fin
          rw [List.drop_of_length_le hkl] at h
          exact h.trans hF
        have hzb := HRel.out.bare.trans hXF
        have hyb : Srt y.body := srt_of (orL_zero HOK.out.dif).2
        have hS : stE X = 0 := by
          rw [hXF]
          exact xx_ok rfl (recE_bare _ HOK.out.beg HY.out.rd.ownN) hyb ⟨by omega, by have := HOK.out.len; omega⟩ ⟨hnx.1, by omega⟩
        have hzok : z.ok wr := z_ok (mk0_wf full HX.out HY.out) (by simp [Su.wf, sumR, mk0]) HRel.out.bare HRel.out.rd HRel.out.into HRel.out.beg hS HRel.out.su
        obtain ⟨q1, q2⟩ := snap_all (fs := fs) HOK.out HY.out.rd.ownN hyb (by omega) hnx hzb HRel.out.rd
        have hew : Ext w3 wr := HRel.out.heap.ext
        have hwe : Ext w wr := HE3.out.trans hew
        have HSm := Lib.hid (show Calls Tryz.prog 22 #[.slice z.bA z.bn z.bc, .slice y.bA y.bn y.bc] wr fun e w' => e = .returned (.bool true) ∧ Ext wr w' from by
          have h := rsame_any wr z.bA y.bA z.bn y.bn z.bc y.bc z.body y.body hzok.bodyN HY.out.rd.bodyN (by have := hzok.bodyM; omega) (by have := HY.out.bodyM; omega) hzok.bodyR (Rd.at HY.out.rd.bodyR hwe (Nat.le_refl _))
          have e : z.body = y.body := congrArg Stg.body hzb
          rwa [decide_eq_true e] at h)
        have HSn := Lib.hid (fun W (hW : Ext wr W) => snap_any W (HM.out.ext (hwe.trans hW)) z (hzok.ext hW) fA fn fc fs (HF.out.ext (hwe.trans hW)))
        rw [q1] at HSn
        have HOv := Lib.hid (fun W A (hW : Ext wr W) (hA : Rd W 0 W.heap.size A [.slice y.oA y.on y.oc, .slice fA fn fc]) => show Calls Tryz.prog 23 #[.slice A 2 2] W (OvOut W [y.own, fs]) from
          rover_any W A 2 2 [⟨y.oA, y.on, y.oc, y.own⟩, ⟨fA, fn, fc, fs⟩] rfl (by omega) hA (fun s hs => by
            simp only [List.mem_cons, List.not_mem_nil, or_false] at hs
            rcases hs with rfl | rfl
            · have hy := HY.out.ext (hwe.trans hW)
              exact ⟨hy.rd.ownN, hy.rd.ownR, hy.props, hy.ownM⟩
            · exact HF.out.ext (hwe.trans hW)))
        rw [q1] at q2
        have HQ2 := Lib.hid q2
        have HOx := Lib.hid (fun W e w' (h : OvOut W [y.own, fs] e w') => show ∃ v, e = .returned (.tuple #[v, .int .i64 (ovE [y.own, fs])]) ∧ w'.ownsRow W.heap.size 79 2 v (ovL [y.own, fs]).length (prps (ovL [y.own, fs])) ∧ Ext W w' from h)
        have HOm := Lib.hid (ovL_len [y.own, fs])
        have hpos : z.pos = (n : Int) := by
          have e : z.pos = ((mkB x y full).length : Int) := congrArg Stg.pos hzb
          rw [e, HN.out, HL.out]
        have hdn : z.done = true := congrArg Stg.done hzb
        have HW := Lib.hid hwe
        have HH := Lib.hid HRel.out.heap
        have j2 : wr.cell? ⟨w.heap.size + 1, 2, none⟩ = some (.slice y.bA y.bn y.bc) := ((HO.out.later hew).boxAt 1 rfl).cell 2 _ rfl
        have HYb := Lib.hid (fun W (hW : Ext wr W) => ((HO.out.later (hew.trans hW)).boxAt 1 rfl))
        clear hzb hyb hS hzok q1 q2 hew hwe HRel hXF hkl hF hnx
        generalize snapA z fs = SA at *
        have hlt2 : decide (k + 1 < m) = false := by simpa using hlt
        obtain ⟨into, ⟨kind, name, frm, guid, oA, on, oc, own, index, count, data, s0, s1, s2, s3⟩, bA, bn, bc, body, pos, next, ⟨ua, ub, uc, ud⟩, dn⟩ := z
        dsimp only at hpos hdn HSm
        subst hpos hdn
        simp only [Stg.cells, Rec.cells, Su.cells, List.cons_append, List.nil_append] at HH HSn
        obtain ⟨_, _, _, _, _, _, _, _, _, _, _, _, _, j13, j14, _, _, _, _, _, j20⟩ := bx21 (HH.out.boxAt 0 rfl) wr (Ext.refl _)
        go_wp2_with fail
        refine HSm.out.mono ?_
        rintro e w5 ⟨rfl, e5⟩
        clear j2 j13 j14 j20
        have HH5 := Lib.hid (HH.out.later e5)
        have HE5 := Lib.hid e5
        clear HH e5
        have HH := HH5
        clear HH5
        go_wp2_with (first | (refine shl_load HH.out sizeStg (by kernel_rfl) rfl rfl rfl 0 rfl rfl ?_))
        refine (HSn.out _ HE5.out).mono ?_
        rintro e w6 ⟨sn, rfl, b6, d6, e6⟩
        have HH6 := Lib.hid (HH.out.later e6)
        have HE6 := Lib.hid (HE5.out.trans e6)
        have HB6 := Lib.hid b6
        have HD6 := Lib.hid d6
        clear HH e6 b6 d6 HSn HE5
        have HH := HH6
        clear HH6
        go_upto_region 20 with (refine shl_store ((Heap.start _).alloc _ _) sizeSnp rfl rfl rfl rfl 0 rfl rfl rfl rfl ?_; intro wB HHS; have TwB := Lib.hid HHS.ext; have HHn := Lib.hid (HH.out.join1 HHS rfl); clear HH HHS; have HH := HHn; clear HHn)
        have HEB := Lib.hid (HE6.out.trans TwB.out)
        have j4 := (HYb.out _ HEB.out).cell 4 _ rfl
        go_wp2_with fail
        clear j4
        go_simp
        generalize hwA : World.alloc _ _ = w7
        have EA : Ext wB w7 := by rw [← hwA]; exact (Ext.refl _).alloc _
        have HH7 := Lib.hid (HH.out.allocE hwA)
        have HE7 := Lib.hid (HEB.out.trans EA)
        have HEA := Lib.hid EA
        clear hwA HH EA
        refine (HOv.out w7 _ HE7.out ((HH7.out.boxRd 0 rfl).more (Nat.zero_le _) (Nat.le_refl _))).mono ?_
        intro e w8 hOO
        obtain ⟨v8, rfl, hown8, e8⟩ := HOx.out _ _ _ hOO
        obtain ⟨A8, c8, rfl, _, _, _⟩ := own_form hown8
        have HH8 := Lib.hid (HH7.out.addRow e8 hown8)
        have HE8 := Lib.hid (HE7.out.trans e8)
        have HD8 := Lib.hid (HD6.out.ext ((TwB.out.trans HEA.out).trans e8))
        clear HH7 hown8 e8 hOO HOv HOx HE7 HD6
        have HH := HH8
        clear HH8
        by_cases c2 : ovE [y.own, fs] = 0
        · rw [c2]
          have hSA := HB6.out.trans (HQ2.out c2)
          have en0 := congrArg Snp.name hSA
          have en : sn.name = y.name := en0
          have eg0 := congrArg Snp.guid hSA
          have eg : sn.guid = y.guid := eg0
          have eo : sn.own = ovL [y.own, fs] := congrArg Snp.own hSA
          have et : sn.tags = [] := congrArg Snp.tags hSA
          have etn : sn.tn = 0 := by rw [HD8.out.tN, et]; rfl
          have HSp := Lib.hid (show Calls Tryz.prog 24 #[.slice sn.oA sn.on sn.oc, .slice A8 (ovL [y.own, fs]).length c8] w8 fun e w' => e = .returned (.bool true) ∧ Ext w8 w' from by
            have h := rpsame_any w8 sn.oA A8 sn.on (ovL [y.own, fs]).length sn.oc c8 sn.own (ovL [y.own, fs]) HD8.out.ownN rfl (by have := HD8.out.ownM; omega) (by have := HOm.out; omega) HD8.out.ownR ((Rd.of_own (HH.out.rowAt 0 rfl)).more (Nat.zero_le _) (Nat.le_refl _))
            rwa [decide_eq_true eo] at h)
          have s0 : w8.cell? ⟨w6.heap.size, 0, none⟩ = some (.string y.name) := by rw [← en]; exact (HH.out.boxAt 2 rfl).cell 0 _ rfl
          have s1 : w8.cell? ⟨w6.heap.size, 1, none⟩ = some (.int .i64 y.guid) := by rw [← eg]; exact (HH.out.boxAt 2 rfl).cell 1 _ rfl
          have s4 : w8.cell? ⟨w6.heap.size, 4, none⟩ = some (.slice sn.oA sn.on sn.oc) := (HH.out.boxAt 2 rfl).cell 4 _ rfl
          have HS3 := Lib.hid (fun W (hW : Ext w8 W) => show W.cell? ⟨w6.heap.size, 3, none⟩ = some (.slice sn.tA 0 sn.tc) from by rw [← etn]; exact ((HH.out.later hW).boxAt 2 rfl).cell 3 _ rfl)
          have t0 := (HYb.out _ HE8.out).cell 0 _ rfl
          have t1 := (HYb.out _ HE8.out).cell 1 _ rfl
          have HHe := Lib.hid (HE3.out.trans HH.out.ext)
          clear hSA en0 eg0 en eg eo et etn c2
          generalize (ovL [y.own, fs]).length = lo at *
          go_wp2_with fail
          refine HSp.out.mono ?_
          rintro e w9 ⟨rfl, e9⟩
          have s3 := HS3.out w9 e9
          go_wp2_with fail
          go_ret
          exact ⟨rfl, HHe.out.trans e9⟩
        · have c3 : (ovE [y.own, fs] != 0) = true := by simpa using c2
          generalize ovE [y.own, fs] = V at *
          generalize (ovL [y.own, fs]).length = lo at *
          go_wp2_with fail
          refine (HNu.out w8 V).mono ?_
          rintro e w9 ⟨rfl, e9⟩
          go_wp2_with fail
          go_ret
          exact ⟨by simp, (HE3.out.trans HH.out.ext).trans e9⟩
  · have hb : (mkE x y full != 0) = true := by simpa using hE
    generalize mkE x y full = E at *
    go_wp2_with fail
    go_ret
    exact ⟨rfl, HH.out.ext⟩
end Go.Proofs.YtmecjjmlccdppaaGreatDoor
/- What the rows of this seat share: the library's variable MaxLen holds some integer (out of the world's shape); a world in which the listed variables are laid. -/
namespace Go.Proofs.YtmecjjmlccdppaaGreatDoor
open Go.RowKit Go.ChangeShapes Go.WideShapes Go.ChangeAt
set_option linter.unusedVariables false
set_option maxRecDepth 100000
theorem maxv_shaped {W : World} (h : W.ShapedOpen Tryz.prog) : MaxV W :=
  Go.Proofs.cell_of_shapedOpen_int (P := Tryz.prog) (g := 0) (t := 3) (zero := #[.int .i64 0]) h (of_decide_eq_true (by kernel_rfl)) (by kernel_rfl) rfl (by kernel_rfl) (by kernel_rfl) Tryz.underlying3
abbrev laidL : List (String × DataW Unit) := [("unicode/utf8.acceptRanges", Rows.laid_unicode_utf8_acceptRanges), ("unicode/utf8.first", Rows.laid_unicode_utf8_first)]
noncomputable def witW (os : Os) : World := World.laidAll Tryz.prog os laidL
theorem laid_met (os : Os) (args : Array Value) : laidMet Tryz.prog laidL ((witW os).forCall (fun _ _ => 0) ⟨#[], args, []⟩).memory :=
  laidMet_laidAll args (by kernel_rfl) (by kernel_rfl)
theorem ownKnobs : ownKnob Tryz.prog.godebug = none := by kernel_rfl
theorem laidOut : laidOutB Tryz.prog = true := by kernel_rfl
section
variable {H : Type} {enc : TypeId × Value → H} {P : Program} {w : World} {base : Nat} {spare : Nat → Bool} {held : Bool}
theorem trodAll_five {t t' t'' t3 t4 : TypeId} {args : Array Value} {ds : List (DataW H)} {ps : List MemPlace} (h : DataW.TrodAll enc P w base spare held [t, t', t'', t3, t4] args.toList ds ps) :
    ∃ v v' v'' v3 v4 d d' d'' d3 d4 p p' p'' p3 p4, args = #[v, v', v'', v3, v4] ∧ ds = [d, d', d'', d3, d4] ∧ ps = p ++ p' ++ p'' ++ p3 ++ p4 ∧ DataW.Trod enc P w base spare held t v d p ∧ DataW.Trod enc P w base spare held t' v' d' p' ∧ DataW.Trod enc P w base spare held t'' v'' d'' p'' ∧ DataW.Trod enc P w base spare held t3 v3 d3 p3 ∧ DataW.Trod enc P w base spare held t4 v4 d4 p4 := by
  obtain ⟨v, vs, d, ds', p, q, hargs, rfl, rfl, hd, hrest⟩ := trodAll_cons h
  obtain ⟨v', vs', d', ds'', p', q', rfl, rfl, rfl, hd', hrest'⟩ := trodAll_cons hrest
  obtain ⟨v'', vs'', d'', ds''', p'', q'', rfl, rfl, rfl, hd'', hrest''⟩ := trodAll_cons hrest'
  obtain ⟨v3, vs3, d3, ds3, p3, q3, rfl, rfl, rfl, hd3, hrest3⟩ := trodAll_cons hrest''
  obtain ⟨v4, vs4, d4, ds4, p4, q4, rfl, rfl, rfl, hd4, hrest4⟩ := trodAll_cons hrest3
  obtain ⟨rfl, rfl, rfl⟩ := trodAll_nil hrest4
  refine ⟨v, v', v'', v3, v4, d, d', d'', d3, d4, p, p', p'', p3, p4, ?_, rfl, by simp [List.append_assoc], hd, hd', hd'', hd3, hd4⟩
  rw [← Array.toList_inj, hargs]
end
end Go.Proofs.YtmecjjmlccdppaaGreatDoor
/-
  FOR A PROOF OF AN '..UptoSaid': WHAT THE BOUND GIVES. Copy it as <Name>Bulk.lean (put your seat's Name for YtmecjjmlccdppaaGreatDoor, the bound of 'uptoSmall' for 1048576), name it in GOCLAIM.json's 'order' behind <Name>Rows. By an AI agent, Sun Nov 15 2026. No person has read it. No macro, syntax, notation, axiom, sorry.
-/
namespace Go.Proofs.YtmecjjmlccdppaaGreatDoor.bulks

theorem one_le {H : Type} (d : DataW H) : 1 ≤ Rows.uptoBulk d := by
  cases d with
  | lit l => cases l <;> simp [Rows.uptoBulk]
  | nil => simp [Rows.uptoBulk]
  | ptr d => simp [Rows.uptoBulk]
  | slice elems spare => simp [Rows.uptoBulk]
  | agg parts => simp [Rows.uptoBulk]
  | iface t d => simp [Rows.uptoBulk]
  | map entries => simp [Rows.uptoBulk]
  | held h => simp [Rows.uptoBulk]

/-- a part's bulk is at most the whole's -/
theorem part_le {H : Type} {d : DataW H} {l : List (DataW H)} (h : d ∈ l) : Rows.uptoBulk d ≤ Rows.uptoBulkAll l := by
  induction l with
  | nil => cases h
  | cons x r ih =>
    simp only [Rows.uptoBulkAll]
    cases List.mem_cons.1 h with
    | inl e => subst e; omega
    | inr e => have := ih e; omega

theorem append {H : Type} (l r : List (DataW H)) : Rows.uptoBulkAll (l ++ r) = Rows.uptoBulkAll l + Rows.uptoBulkAll r := by
  induction l with
  | nil => simp [Rows.uptoBulkAll]
  | cons x l ih => simp only [List.cons_append, Rows.uptoBulkAll, ih]; omega

/-- so many values at the most -/
theorem length_le {H : Type} (l : List (DataW H)) : l.length ≤ Rows.uptoBulkAll l := by
  induction l with
  | nil => simp [Rows.uptoBulkAll]
  | cons x r ih => have := one_le x; simp only [Rows.uptoBulkAll, List.length_cons]; omega

/-- a slice's places, and what they hold -/
theorem slice_le {H : Type} (elems spare : List (DataW H)) : elems.length + spare.length + 1 ≤ Rows.uptoBulk (.slice elems spare) := by
  have h1 := length_le elems
  have h2 := length_le spare
  simp only [Rows.uptoBulk]
  omega
theorem slice_elems {H : Type} (elems spare : List (DataW H)) : Rows.uptoBulkAll elems + 1 ≤ Rows.uptoBulk (.slice elems spare) := by
  simp only [Rows.uptoBulk]
  omega

/-- a string's letters -/
theorem string_eq {H : Type} (bytes : List UInt8) : Rows.uptoBulk (DataW.lit (H := H) (.string bytes)) = bytes.length + 1 := by
  simp [Rows.uptoBulk]

/-- THE BOUND, as the builder hands it over ('hk') -/
theorem bound {H : Type} {l : List (DataW H)} (hk : Rows.uptoSmall H l = true) : Rows.uptoBulkAll l ≤ 1048576 := by
  simpa [Rows.uptoSmall] using hk

/-- ROOM: a slice of n elements of b bytes, grown by append: below the 2^48 bytes that append, make and a Builder bear. Here n up to 2^21, b up to 4,096: put your own numbers. -/
theorem room {n b : Nat} (hn : n ≤ 2097152) (hb : b ≤ 4096) : (n + n / 4 + 192) * b ≤ 281474976710656 := by
  have h : (n + n / 4 + 192) * b ≤ 2621632 * 4096 := Nat.mul_le_mul (by omega) hb
  omega

end Go.Proofs.YtmecjjmlccdppaaGreatDoor.bulks
