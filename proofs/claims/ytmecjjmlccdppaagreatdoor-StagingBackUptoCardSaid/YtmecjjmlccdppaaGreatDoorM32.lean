/- The texts Seq, Rcs, Num in one file. -/
import Derived.Test.YtmecjjmlccdppaaGreatDoorM31
import Derived.Test.YtmecjjmlccdppaaGreatDoorM25
import Derived.Test.YtmecjjmlccdppaaGreatDoorM29
import Derived.Test.YtmecjjmlccdppaaGreatDoorM30
import Derived.Test.YtmecjjmlccdppaaGreatDoorM20
/- A stream's records follow one another, and a stage takes them one by one: the plain law. -/
namespace Go.Proofs.YtmecjjmlccdppaaGreatDoor
open Go.RowKit
set_option linter.unusedVariables false
set_option linter.unusedSimpArgs false

def Sq : Int → Int → Su → List Rec → Prop
  | s, _, _, [] => s = 2
  | s, n, su, r :: l => (0 ≤ s ∧ s < 2) ∧ (0 ≤ n ∧ n ≤ 1024) ∧ (stepR s n r).err = 0 ∧ (r.kind = 4 → sumR r = su) ∧ Sq (stepR s n r).seen (stepR s n r).next (feed su (encB r)) l
theorem same_on {x r : Rec} (h : x.bare = r.bare) (ho : x.on = r.on) : recE x = recE r ∧ encB x = encB r ∧ sumR x = sumR r ∧ (∀ s n, stepR s n x = stepR s n r) ∧ (∀ xs, apR xs x = apR xs r) ∧ x.kind = r.kind := by
  obtain ⟨kind, name, frm, guid, oA, on, oc, own, index, count, data, s0, s1, s2, s3⟩ := x
  obtain ⟨kind', name', frm', guid', oA', on', oc', own', index', count', data', t0, t1, t2, t3⟩ := r
  simp only [Rec.bare, Rec.mk.injEq] at h
  obtain ⟨rfl, rfl, rfl, rfl, -, -, -, rfl, rfl, rfl, rfl, rfl, rfl, rfl, rfl⟩ := h
  dsimp only at ho
  subst ho
  exact ⟨rfl, rfl, rfl, fun _ _ => rfl, fun _ => rfl, rfl⟩
def feeds (su : Su) (l : List Rec) : Su := l.foldl (fun s r => feed s (encB r)) su
theorem mkP_fold : ∀ (l : List Rec) (p : List UInt8 × Su), l.foldl mkP p = (p.1 ++ l.flatMap encB, feeds p.2 l)
  | [], p => by simp [feeds]
  | r :: l, p => by
    rw [List.foldl_cons, mkP_fold l (mkP p r)]
    simp [mkP, feeds, List.append_assoc]
/-- a stream's records -/
def rsL (x y : Snp) (full : Bool) : List Rec := mk0 x y full :: (dfL (mkBase x full) y.body ++ [sumRec (mkPre x y full).2])
theorem mkB_rsL (x y : Snp) (full : Bool) : mkB x y full = (rsL x y full).flatMap encB := by
  unfold mkB rsL
  rw [List.flatMap_cons, List.flatMap_append, List.flatMap_cons, List.flatMap_nil, List.append_nil, ← List.append_assoc]
  congr 1
  unfold mkPre mkF
  rw [mkP_fold]
  simp
theorem mkPre_sum (x y : Snp) (full : Bool) : (mkPre x y full).2 = feeds (feed Su.zero (encB (mk0 x y full))) (dfL (mkBase x full) y.body) := by
  unfold mkPre mkF
  rw [mkP_fold]
  rfl
theorem step_mid {n : Int} {r : Rec} (hr : okR r) (h0 : 0 ≤ n) (h1 : n ≤ r.index) : stepR 1 n r = ⟨1, nxR r, 0⟩ := by
  obtain ⟨a1, a2, a3, a4⟩ := okR_next hr
  obtain ⟨e1, -⟩ := okR_rec hr
  have hb : badS 1 n = false := by simp [badS]; omega
  have hk : r.kind = 2 ∨ r.kind = 3 := by rcases hr with ⟨i, d, rfl, _⟩ | ⟨i, c, rfl, _⟩ <;> simp [rec2, rec3]
  have ha : aftB 1 n r = true := by
    unfold aftB
    rw [if_neg (by omega), if_pos hk]
    simp [h1]
  unfold stepR
  rw [hb, if_neg (by simp), if_neg (by rw [e1]; simp), if_pos ha]
  unfold aftS aftN nxR
  rw [if_pos (by omega), if_neg (by omega)]
  congr 1
  rcases hk with h | h
  · rw [if_pos h, if_pos h]
  · rw [if_neg (by omega), if_pos h, if_neg (by omega)]
theorem step_end {n : Int} (su : Su) (h0 : 0 ≤ n ∧ n ≤ 1024) : stepR 1 n (sumRec su) = ⟨2, n, 0⟩ := by
  have hb : badS 1 n = false := by simp [badS]; omega
  unfold stepR
  rw [hb, if_neg (by simp), if_neg (by rw [sumRec_ok]; simp)]
  rfl
theorem sq_mid : ∀ (l : List Rec) (n : Int) (su : Su), (∀ r ∈ l, okR r) → Ch n l → (0 ≤ n ∧ n ≤ 1024) → Sq 1 n su (l ++ [sumRec (feeds su l)])
  | [], n, su, _, _, h0 => by
    show Sq 1 n su [sumRec su]
    refine ⟨by decide, h0, by rw [step_end su h0], fun _ => rfl, ?_⟩
    rw [step_end su h0]
    rfl
  | r :: l, n, su, hok, hc, h0 => by
    have hr := hok r (by simp)
    obtain ⟨a1, a2, a3, a4⟩ := okR_next hr
    have hs := step_mid hr h0.1 hc.1
    refine ⟨by decide, h0, by rw [hs], fun hk => ?_, ?_⟩
    · rcases hr with ⟨i, d, rfl, _⟩ | ⟨i, c, rfl, _⟩
      · exact absurd hk (by simp [rec2])
      · exact absurd hk (by simp [rec3])
    · show Sq (stepR 1 n r).seen (stepR 1 n r).next _ (l ++ [sumRec (feeds su (r :: l))])
      rw [hs]
      exact sq_mid l (nxR r) (feed su (encB r)) (fun x hx => hok x (by simp [hx])) hc.2 (by omega)
structure MkOk (x y : Snp) (full : Bool) : Prop where
  base : bkE (mkBase x full) = 0
  dif : dfE (mkBase x full) y.body = 0
  beg : recE (mk0 x y full) = 0
  len : (mkB x y full).length ≤ 32768
theorem mk_ok {x y : Snp} {full : Bool} (h : mkE x y full = 0) : MkOk x y full := by
  unfold mkE at h
  by_cases h1 : bkE (mkBase x full) = 0
  · rw [if_neg (by simp [h1])] at h
    by_cases h2 : dfE (mkBase x full) y.body = 0
    · rw [if_neg (by simp [h2])] at h
      by_cases h3 : recE (mk0 x y full) = 0
      · rw [if_neg (by simp [h3])] at h
        split at h
        · cases h
        · split at h
          · cases h
          · exact ⟨h1, h2, h3, by omega⟩
      · rw [if_pos h3] at h; exact absurd h h3
    · rw [if_pos h2] at h; exact absurd h h2
  · rw [if_pos h1] at h; exact absurd h h1
theorem step_first {x y : Snp} {full : Bool} (h : recE (mk0 x y full) = 0) : stepR 0 0 (mk0 x y full) = ⟨1, 0, 0⟩ := by
  have ha : aftB 0 0 (mk0 x y full) = true := rfl
  have hb : badS 0 0 = false := rfl
  unfold stepR
  rw [hb, if_neg (by simp), if_neg (by rw [h]; simp), if_pos ha]
  rfl
theorem sq_all {x y : Snp} {full : Bool} (h : MkOk x y full) : Sq 0 0 Su.zero (rsL x y full) := by
  have hd := dfL_any _ _ h.dif
  refine ⟨by decide, by decide, by rw [step_first h.beg], fun hk => absurd hk (by simp [mk0]), ?_⟩
  rw [step_first h.beg]
  have := sq_mid (dfL (mkBase x full) y.body) 0 (feed Su.zero (encB (mk0 x y full))) hd.ok hd.ch (by decide)
  rwa [← mkPre_sum] at this
theorem mkPre_wf (x y : Snp) (full : Bool) : (mkPre x y full).2.wf := mkP_wf _ _ Su.zero_wf
/-- each record of a stream may be -/
theorem rsL_ok {x y : Snp} {full : Bool} (h : MkOk x y full) (ho : y.on = y.own.length) : ∀ r ∈ rsL x y full, recE r = 0 ∧ (sumR r).wf ∧ r.on = r.own.length := by
  have hd := dfL_any _ _ h.dif
  intro r hr
  rcases List.mem_cons.1 hr with rfl | hr
  · exact ⟨h.beg, by simp [Su.wf, sumR, mk0], ho⟩
  · rcases List.mem_append.1 hr with hr | hr
    · obtain ⟨a1, a2, a3, a4, a5, a6⟩ := okR_rec (hd.ok r hr)
      exact ⟨a1, a3, by rw [a5, a6]; rfl⟩
    · rw [List.mem_singleton.1 hr]
      exact ⟨sumRec_ok _, mkPre_wf x y full, rfl⟩
/-- a stage on its way -/
def XX (r0 : Rec) (body : List Blk) (pos next : Int) (su : Su) (dn : Bool) : Stg := ⟨⟨#[120]⟩, r0.bare, none, 0, 0, body, pos, next, su, dn⟩
theorem path_x : pathB ⟨#[120]⟩ = true := by decide +kernel
theorem xx_ok {r0 : Rec} {body : List Blk} {pos next : Int} {su : Su} {dn : Bool} (h1 : r0.kind = 1) (h2 : recE r0.bare = 0) (h3 : Srt body) (h4 : 0 ≤ pos ∧ pos ≤ 1099511627776) (h5 : 0 ≤ next ∧ next ≤ 1099511627776) : stE (XX r0 body pos next su dn) = 0 := by
  have hb : stB (XX r0 body pos next su dn) = true := by
    unfold stB XX
    have e1 : (⟨#[120]⟩ : ByteArray).toList.isEmpty = false := by rw [ByteArray.toList_eq]; rfl
    have e2 : (r0.bare.kind == 1) = true := by show (r0.kind == 1) = true; simp [h1]
    simp only [e1, path_x, e2, h2, of_srt h3, amt, h4.1, h4.2, h5.1, h5.2]
    rfl
  rw [stE, if_pos hb]
theorem xx_step {r0 : Rec} {body : List Blk} {pos next : Int} {su : Su} {r : Rec} (h1 : r0.kind = 1) (h2 : recE r0.bare = 0) (h3 : Srt body) (h4 : 0 ≤ pos) (h5 : 0 ≤ next ∧ next ≤ r.index) (hr : okR r) (h6 : pos + ((encB r).length : Int) ≤ 1099511627776) :
    stakeE (XX r0 body pos next su false) r = 0 ∧ stakeA (XX r0 body pos next su false) r = XX r0 (apR body r) (pos + ((encB r).length : Int)) (nxR r) (feed su (encB r)) false := by
  obtain ⟨a1, a2, a3, a4⟩ := okR_next hr
  obtain ⟨e1, -⟩ := okR_rec hr
  have hk : r.kind = 2 ∨ r.kind = 3 := by rcases hr with ⟨i, d, rfl, _⟩ | ⟨i, c, rfl, _⟩ <;> simp [rec2, rec3]
  have hE : stakeE (XX r0 body pos next su false) r = 0 := by
    unfold stakeE
    rw [if_neg (by rw [xx_ok h1 h2 h3 (by omega) (by omega)]; simp), if_neg (by rw [e1]; simp), if_neg, if_neg, if_neg]
    · show ¬ 1099511627776 - ((encB r).length : Int) < pos
      omega
    · have : (r.kind == 4) = false := by simp; omega
      rw [stakeSum, this]; simp
    · have b1 : (r.kind == 1) = false := by simp; omega
      have b2 : decide (r.index < (XX r0 body pos next su false).next) = false := decide_eq_false (show ¬ r.index < next by omega)
      rw [stakeBad, b1, b2]; simp [XX]
  refine ⟨hE, ?_⟩
  rw [stakeA, if_pos hE]
  have b4 : (r.kind == 4) = false := by simp; omega
  have b5 : ¬ r.kind = 4 := by omega
  simp only [XX, b4, b5, if_false]
  congr 1
  unfold nxR
  rcases hk with h | h
  · rw [if_pos h, if_pos h]
  · rw [if_neg (by omega), if_pos h, if_neg (by omega)]
theorem xx_end {r0 : Rec} {body : List Blk} {pos next : Int} {su : Su} (h1 : r0.kind = 1) (h2 : recE r0.bare = 0) (h3 : Srt body) (h4 : 0 ≤ pos) (h5 : 0 ≤ next ∧ next ≤ 1024) (h6 : pos + ((encB (sumRec su)).length : Int) ≤ 1099511627776) :
    stakeE (XX r0 body pos next su false) (sumRec su) = 0 ∧ stakeA (XX r0 body pos next su false) (sumRec su) = XX r0 body (pos + ((encB (sumRec su)).length : Int)) next su true := by
  have hE : stakeE (XX r0 body pos next su false) (sumRec su) = 0 := by
    unfold stakeE
    rw [if_neg (by rw [xx_ok h1 h2 h3 (by omega) (by omega)]; simp), if_neg (by rw [sumRec_ok]; simp), if_neg, if_neg, if_neg]
    · show ¬ 1099511627776 - ((encB (sumRec su)).length : Int) < pos
      omega
    · rw [stakeSum]
      simp [sumEq, sumR, sumRec, XX]
    · rw [stakeBad]
      simp [sumRec, XX]
  refine ⟨hE, ?_⟩
  rw [stakeA, if_pos hE]
  rfl
/-- a stage takes these -/
def Tk : Stg → List Rec → Prop
  | _, [] => True
  | x, r :: l => stakeE x r = 0 ∧ Tk (stakeA x r) l
theorem tk_mid (r0 : Rec) (h1 : r0.kind = 1) (h2 : recE r0.bare = 0) : ∀ (l : List Rec) (body : List Blk) (pos next : Int) (su : Su), (∀ r ∈ l, okR r) → Ch next l → Srt body → 0 ≤ pos → (0 ≤ next ∧ next ≤ 1024) →
    pos + (((l ++ [sumRec (feeds su l)]).flatMap encB).length : Int) ≤ 1099511627776 →
    Tk (XX r0 body pos next su false) (l ++ [sumRec (feeds su l)]) ∧ ∃ nx, (l ++ [sumRec (feeds su l)]).foldl stakeA (XX r0 body pos next su false) = XX r0 (l.foldl apR body) (pos + (((l ++ [sumRec (feeds su l)]).flatMap encB).length : Int)) nx (feeds su l) true ∧ 0 ≤ nx ∧ nx ≤ 1024
  | [], body, pos, next, su, _, _, h3, h4, h5, h6 => by
    have e : feeds su [] = su := rfl
    rw [e] at h6 ⊢
    simp only [List.nil_append, List.flatMap_cons, List.flatMap_nil, List.append_nil] at h6 ⊢
    obtain ⟨a, b⟩ := xx_end (next := next) h1 h2 h3 h4 h5 h6
    exact ⟨⟨a, trivial⟩, next, b, h5⟩
  | r :: l, body, pos, next, su, hok, hc, h3, h4, h5, h6 => by
    have hr := hok r (by simp)
    obtain ⟨a1, a2, a3, a4⟩ := okR_next hr
    have e : feeds su (r :: l) = feeds (feed su (encB r)) l := rfl
    rw [e] at h6 ⊢
    rw [List.cons_append, List.flatMap_cons, List.length_append] at h6 ⊢
    obtain ⟨b1, b2⟩ := xx_step (su := su) h1 h2 h3 h4 ⟨h5.1, hc.1⟩ hr (by omega)
    obtain ⟨c1, nx, c2, c3⟩ := tk_mid r0 h1 h2 l (apR body r) (pos + ((encB r).length : Int)) (nxR r) (feed su (encB r)) (fun x hx => hok x (by simp [hx])) hc.2 (apR_ok h3 hr) (by omega) (by omega) (by omega)
    refine ⟨⟨b1, by rw [b2]; exact c1⟩, nx, ?_, c3⟩
    rw [List.foldl_cons, b2, c2, List.foldl_cons]
    congr 1
    omega
theorem start_all {x y : Snp} {full : Bool} (h : MkOk x y full) (ho : y.on = y.own.length) : startE ⟨#[120]⟩ (mk0 x y full) (mkBase x full) 0 = 0 ∧ startA ⟨#[120]⟩ (mk0 x y full) (mkBase x full) 0 = XX (mk0 x y full) (mkBase x full) ((encB (mk0 x y full)).length : Int) 0 (feed Su.zero (encB (mk0 x y full))) false := by
  have hl := encB_len (mk0 x y full)
  have hE : startE ⟨#[120]⟩ (mk0 x y full) (mkBase x full) 0 = 0 := by
    unfold startE
    rw [if_neg (by decide), if_neg (by rw [path_x]; simp), if_neg (by rw [h.beg]; simp), if_neg (by simp [mk0]), if_neg (by rw [h.base]; simp), if_neg (by decide), if_neg]
    simp [amt]; omega
  refine ⟨hE, ?_⟩
  rw [startA, if_pos hE]
  simp [XX]
/-- THE PLAIN LAW: record by record the stage has what the stream makes -/
theorem take_all {x y : Snp} {full : Bool} (h : MkOk x y full) (ho : y.on = y.own.length) : Tk (startA ⟨#[120]⟩ (mk0 x y full) (mkBase x full) 0) (dfL (mkBase x full) y.body ++ [sumRec (mkPre x y full).2]) ∧
    ∃ nx, (dfL (mkBase x full) y.body ++ [sumRec (mkPre x y full).2]).foldl stakeA (startA ⟨#[120]⟩ (mk0 x y full) (mkBase x full) 0) = XX (mk0 x y full) y.body ((mkB x y full).length : Int) nx (mkPre x y full).2 true ∧ 0 ≤ nx ∧ nx ≤ 1024 := by
  have hd := dfL_any _ _ h.dif
  obtain ⟨s1, s2⟩ := start_all h ho
  have hlen : ((mkB x y full).length : Int) = ((encB (mk0 x y full)).length : Int) + (((dfL (mkBase x full) y.body ++ [sumRec (mkPre x y full).2]).flatMap encB).length : Int) := by
    rw [mkB_rsL, rsL, List.flatMap_cons, List.length_append]
    omega
  have hL := h.len
  rw [s2, hlen]
  rw [mkPre_sum] at hlen ⊢
  obtain ⟨a, nx, b, c⟩ := tk_mid (mk0 x y full) rfl (recE_bare _ h.beg ho) (dfL (mkBase x full) y.body) (mkBase x full) ((encB (mk0 x y full)).length : Int) 0 (feed Su.zero (encB (mk0 x y full))) hd.ok hd.ch (srt_of h.base) (by omega) (by decide) (by omega)
  refine ⟨a, nx, ?_, c⟩
  rw [b, hd.out]
theorem stakeA_bare {x y : Stg} (h : x.bare = y.bare) (hx : x.beg.on = x.beg.own.length) (hy : y.beg = y.beg.bare) (hk : y.beg.kind = 1) (r : Rec) : stakeE x r = stakeE y r ∧ stakeA x r = stakeA y r := by
  obtain ⟨into, ⟨kind, name, frm, guid, oA, on, oc, own, index, count, data, s0, s1, s2, s3⟩, bA, bn, bc, body, pos, next, ⟨ua, ub, uc, ud⟩, dn⟩ := x
  obtain ⟨into', ⟨kind', name', frm', guid', oA', on', oc', own', index', count', data', t0, t1, t2, t3⟩, bA', bn', bc', body', pos', next', ⟨ua', ub', uc', ud'⟩, dn'⟩ := y
  simp only [Stg.bare, Rec.bare, Stg.mk.injEq, Rec.mk.injEq, Su.mk.injEq] at h
  obtain ⟨rfl, ⟨rfl, rfl, rfl, rfl, -, -, -, rfl, rfl, rfl, rfl, rfl, rfl, rfl, rfl⟩, -, -, -, rfl, rfl, rfl, ⟨rfl, rfl, rfl, rfl⟩, rfl⟩ := h
  dsimp only at hk
  subst hk
  exact ⟨rfl, rfl⟩
theorem stakeA_rec {x : Stg} {q r : Rec} (h : q.bare = r.bare) (ho : q.on = r.on) : stakeE x q = stakeE x r ∧ stakeA x q = stakeA x r := by
  obtain ⟨kind, name, frm, guid, oA, on, oc, own, index, count, data, s0, s1, s2, s3⟩ := q
  obtain ⟨kind', name', frm', guid', oA', on', oc', own', index', count', data', t0, t1, t2, t3⟩ := r
  simp only [Rec.bare, Rec.mk.injEq] at h
  obtain ⟨rfl, rfl, rfl, rfl, -, -, -, rfl, rfl, rfl, rfl, rfl, rfl, rfl, rfl⟩ := h
  dsimp only at ho
  subst ho
  exact ⟨rfl, rfl⟩
theorem psA_okc (l : List UInt8) : (psA l).okc := by
  unfold psA
  split
  · have h := rd_small (psT l)
    refine readA_okc _ _ ⟨by omega, by have := (l.headD 0).toNat_lt; omega⟩ (Nat.le_trans h.1 (by decide)) fun s hs => Nat.le_trans (h.2 s hs) (by decide)
  · unfold zeroR'
    constructor <;> first | decide | (intro p hp; cases hp) | (simp [sumR, Su.wf])
/-- a record that was read is one that may be -/
theorem ps_wf {y : Rec} {l : List UInt8} (h : y.bare = psA l) (ho : y.on = y.own.length) : y.wf ∧ (sumR y).wf := by
  have hk : y.okc := okc_bare (show y.bare = (psA l).bare by rw [← h]; rfl) (psA_okc l)
  exact ⟨okc_wf hk ho, hk.sum⟩
end Go.Proofs.YtmecjjmlccdppaaGreatDoor
/- stream.Records on a stream's octets: the walk. -/
namespace Go.Proofs.YtmecjjmlccdppaaGreatDoor
open Go.RowKit
set_option linter.unusedVariables false
set_option linter.unusedSimpArgs false

theorem Heap.sub {w0 w : World} {its its' : List It} (H : Heap w0 its w) (f : Nat → Nat) (hf : ∀ i j, f i = f j → i = j) (h : ∀ i x, its'[i]? = some x → its[f i]? = some x) : Heap w0 its' w :=
  ⟨H.ext, fun i x hx => H.all (f i) x (h i x hx), fun i j x y k hij hx hy => H.apart (f i) (f j) x y k (fun e => hij (hf i j e)) (h i x hx) (h j y hy)⟩
theorem Heap.mid {w0 w : World} {x : It} {a b : List It} (H : Heap w0 (x :: (a ++ b)) w) : Heap w0 (a ++ x :: b) w := by
  refine H.sub (fun i => if i < a.length then i + 1 else if i = a.length then 0 else i) (fun i j e => ?_) fun i y hy => ?_
  · split at e <;> split at e <;> (try split at e) <;> (try split at e) <;> omega
  · by_cases h1 : i < a.length
    · rw [if_pos h1, List.getElem?_cons_succ, List.getElem?_append_left h1]
      rwa [List.getElem?_append_left h1] at hy
    · rw [if_neg h1]
      by_cases h2 : i = a.length
      · subst h2
        rw [if_pos rfl]
        rw [List.getElem?_append_right (Nat.le_refl _), Nat.sub_self] at hy
        simpa using hy
      · rw [if_neg h2]
        rw [List.getElem?_append_right (by omega)] at hy
        obtain ⟨k, hk⟩ : ∃ k, i = a.length + 1 + k := ⟨i - a.length - 1, by omega⟩
        subst hk
        rw [show a.length + 1 + k - a.length = k + 1 by omega, List.getElem?_cons_succ] at hy
        rw [show a.length + 1 + k = (a.length + k) + 1 by omega, List.getElem?_cons_succ, List.getElem?_append_right (by omega), show a.length + k - a.length = k by omega]
        exact hy
theorem Heap.back {w0 w : World} {x : It} {a : List It} (H : Heap w0 (x :: a) w) : Heap w0 (a ++ [x]) w := Heap.mid (b := []) (by simpa using H)
theorem Heap.drop4 {w0 w : World} {x a b c d : It} {r : List It} (H : Heap w0 (x :: a :: b :: c :: d :: r) w) : Heap w0 (x :: r) w := by
  refine H.sub (fun i => if i = 0 then 0 else i + 4) (fun i j e => ?_) fun i y hy => ?_
  · split at e <;> split at e <;> omega
  · cases i with
    | zero => exact hy
    | succ i => rw [if_neg (by omega)]; exact hy
def rdsOf (ys : List Rec) : List It := ys.map fun y => It.rd y.oA (prps y.own)
def atLen (b : Nat) (w : World) : Nat := match w.cell? ⟨b, 0, none⟩ with
  | some (.int _ z) => z.toNat
  | _ => 0
theorem atLen_of {b : Nat} {w : World} {n : Nat} (h : Bx w b [.int .i64 (n : Int)]) : atLen b w = n := by
  rw [atLen, h.cell 0 _ rfl]
  simp
/-- records that were read -/
structure RdOk (ys : List Rec) : Prop where
  all : ∀ y ∈ ys, y.on = y.own.length ∧ y.wf ∧ (sumR y).wf
def RecsOut (w : World) (rs : List Rec) (n : Nat) (e : Ending) (w' : World) : Prop :=
  ∃ (v : Value) (ys : List Rec), e = .returned (.tuple #[v, .int .i64 n, .int .i64 0]) ∧ ys.map Rec.bare = rs.map Rec.bare ∧ RdOk ys ∧ Heap w (.row 27 12 v ys.length (recs ys) :: rdsOf ys) w'
section
variable {w0 w : World} {its : List It} {R : Ending → World → Prop} {tmps : Array Value}
abbrev rcDs (b c d : Nat) : List Deferred := [⟨.fn (.func 49) #[.pointer (some ⟨b, 0, none⟩), .pointer (some ⟨c, 0, none⟩), .pointer (some ⟨d, 0, none⟩)], #[]⟩]
/-- Records' end -/
theorem rc_idle {b c d i j k : Nat} {v u z : Value} (H : Heap w0 its w) (hi : its[i]? = some (.box b [v])) (hj : its[j]? = some (.box c [u])) (hk : its[k]? = some (.box d [z]))
    (h2 : tmps.getD 2 undef = .pointer (some ⟨b, 0, none⟩)) (h3 : tmps.getD 3 undef = .pointer (some ⟨c, 0, none⟩)) (h4 : tmps.getD 4 undef = .pointer (some ⟨d, 0, none⟩)) (hR : ∀ w', Heap w0 its w' → R (.returned (.tuple #[v, u, z])) w') :
    Leaves Tryz.prog Tryz.f21 tmps R (rcDs b c d) .returning w := by
  refine leaves_cons (f := 49) (args := #[.pointer (some ⟨b, 0, none⟩), .pointer (some ⟨c, 0, none⟩), .pointer (some ⟨d, 0, none⟩)]) (by simp) (by simp [go_sem]) ?_
  refine (rc1_idle (b := b) (c := c) (d := d) (Lib.hid H)).mono ?_
  rintro e u' w'' ⟨rfl, rfl, H2⟩
  simp only [settle]
  refine leave3 (by kernel_rfl) (by kernel_rfl) (by kernel_rfl) H2 rfl h2 h3 h4 i j k hi hj hk (hR _ H2)
end
structure RcRel (w : World) (rs : List Rec) (bx b4 b3 b2 a : Nat) (done rest ys : List Rec) (v : Value) (s nx : Int) (su : Su) (wr : World) : Prop where
  spl : rs = done ++ rest
  sq : Sq s nx su rest
  bare : ys.map Rec.bare = done.map Rec.bare
  ok : RdOk ys
  at' : a = (done.flatMap encB).length
  heap : Heap w (.row 27 12 v ys.length (recs ys) :: .box bx (.int .i64 s :: .int .i64 nx :: su.cells ++ [v]) :: .box b4 [.int .i64 0] :: .box b3 [.int .i64 a] :: .box b2 [.slice none 0 0] :: rdsOf ys) wr
theorem encB_pos (r : Rec) (h : recE r = 0) : 1 ≤ (encB r).length := by
  rw [encB, if_pos h]
  simp
set_option maxRecDepth 100000 in
set_option maxHeartbeats 8000000 in
theorem records_any (w : World) (A : Option Addr) (n c : Nat) (b : List UInt8) (rs : List Rec) (hb : b = rs.flatMap encB) (hn : n = b.length) (hN : n ≤ 32768) (hnc : n ≤ c) (hc : c ≤ 9223372036854775807) (hr : Rd w 0 w.heap.size A (bytes b))
    (hrs : ∀ r ∈ rs, recE r = 0 ∧ (sumR r).wf ∧ r.on = r.own.length) (hrl : rs.length ≤ 1000000) (hq : Sq 0 0 Su.zero rs) :
    Calls Tryz.prog 21 #[.slice A n c] w (RecsOut w rs n) := by
  have hmf : ∀ (fn : Fn) (first cap : Array Value) (w : World), (Instr.makeFunc fn first cap).run Tryz.prog w = .ok (.func fn first cap) w := fun _ _ _ _ => rfl
  have HB := Lib.hid hb
  have HN := Lib.hid hn
  have HR := Lib.hid hr
  have HRS := Lib.hid hrs
  have HQ := Lib.hid hq
  have HL := Lib.hid hrl
  obtain ⟨j0, hj0, hy0, hy1, hy2⟩ := info_parts info5
  clear hb hn hr hrs hq hrl
  go_enter_defers Tryz.func21, Tryz.ntmps21
  go_upto_region 1 with fail
  generalize hwH : World.alloc (World.alloc (World.alloc w _) _) _ = w1
  have HH := Lib.hid (Heap.three hwH)
  clear hwH
  go_wp2_with fail
  generalize hwA : World.alloc _ _ = w2
  have HH2 := Lib.hid ((HH.out.allocE hwA).row0 (e := 27) (size := 12))
  clear HH hwA
  have HH := HH2
  clear HH2
  obtain ⟨bx, hbx⟩ : ∃ b, b = w1.heap.size := ⟨_, rfl⟩
  rw [← hbx] at HH ⊢
  clear hbx
  obtain ⟨b2, hb2⟩ : ∃ b, b = w.heap.size := ⟨_, rfl⟩
  rw [← hb2] at HH ⊢
  clear hb2
  go_loopw [20] (fun _ wr => ∃ (a : Nat) (done rest ys : List Rec) (v : Value) (s nx : Int) (su : Su), a ≤ n ∧ ys.length ≤ 1000000 ∧ Hid (RcRel w rs bx (b2 + 1 + 1) (b2 + 1) b2 a done rest ys v s nx su wr)) (fun _ wr => n - atLen (b2 + 1) wr)
  case atStart => exact ⟨0, [], rs, [], .slice none 0 0, 0, 0, Su.zero, Nat.zero_le _, Nat.zero_le _, Lib.hid ⟨rfl, HQ.out, rfl, ⟨fun y hy => by cases hy⟩, rfl, HH.out⟩⟩
  case round =>
    obtain ⟨a, done, rest, ys, v, s, nx, su, ha, hyl, HRel⟩ := hrel
    obtain ⟨Av, cv, rfl, _, _, _⟩ := own_form (HRel.out.heap.rowAt 0 rfl)
    have HH := Lib.hid HRel.out.heap
    have HM0 := Lib.hid (atLen_of (HRel.out.heap.boxAt 3 rfl))
    cases rest with
    | nil =>
      obtain rfl : s = 2 := HRel.out.sq
      have hd : rs = done := by rw [HRel.out.spl, List.append_nil]
      obtain rfl : a = n := by rw [HRel.out.at', HN.out, HB.out, hd]
      go_upto_region 11 with (refine shl_load1 HH.out rfl rfl rfl 1 rfl rfl (by decide +kernel) ?_)
      go_wp2_with (refine shl_load1 HH.out rfl rfl rfl 3 rfl rfl (by decide +kernel) ?_)
      refine (need_true _ _ _).mono ?_
      rintro e w3 ⟨rfl, rfl⟩
      go_upto_region 12 with fail
      have HHd := Lib.hid HH.out.drew
      clear HH
      refine wp_noP ?_
      refine rgnM (fun k => Nat.blt 0 k && Nat.blt k 7) (S := Heap w [_, _]) (by kernel_rfl) (HHd.out.pair 1 3 rfl rfl rfl) (fun hHeld => ?_)
      generalize World.drew _ = wd at *
      refine pureM 0 (v := ?_) rfl (by kernel_rfl) (by kernel_rfl) (by kernel_rfl) (by kernel_rfl) (fun _ _ _ h => h) (by kernel_rfl) ?_ (fun _ => by assumption) ?_; rotate_left; (focus (intro w; go_simp <;> with_reducible rfl)); (try simp only [Act.put, List.setIfInBounds_toArray, List.set_cons_zero, List.set_cons_succ])
      refine takeM 1 (v := ?_) rfl (by kernel_rfl) (by kernel_rfl) (by kernel_rfl) (by kernel_rfl) (fun _ _ _ h => h) (by kernel_rfl) ?_ (by assumption) ?_; rotate_left; (focus (intro w hSw; (try dsimp only at hSw); (try go_split_ands); go_simp <;> with_reducible rfl)); (try simp only [Act.put, List.setIfInBounds_toArray, List.set_cons_zero, List.set_cons_succ])
      refine takeM 2 (v := ?_) rfl (by kernel_rfl) (by kernel_rfl) (by kernel_rfl) (by kernel_rfl) (fun _ _ _ h => h) (by kernel_rfl) ?_ (by assumption) ?_; rotate_left; (focus (intro w hSw; (try dsimp only at hSw); (try go_split_ands); go_simp <;> with_reducible rfl)); (try simp only [Act.put, List.setIfInBounds_toArray, List.set_cons_zero, List.set_cons_succ])
      refine takeM 3 rfl (by kernel_rfl) (by kernel_rfl) (by kernel_rfl) (by kernel_rfl) (fun _ _ _ h => h) (by kernel_rfl) (fun wT hST => sh_run_load1 hST rfl rfl 0 rfl rfl (by kernel_rfl)) hHeld ?_; (try simp only [Act.put, List.setIfInBounds_toArray, List.set_cons_zero, List.set_cons_succ])
      refine takeM 4 rfl (by kernel_rfl) (by kernel_rfl) (by kernel_rfl) (by kernel_rfl) (fun _ _ _ h => h) (by kernel_rfl) (fun wT hST => sh_run_load1 hST rfl rfl 1 rfl rfl (by kernel_rfl)) hHeld ?_; (try simp only [Act.put, List.setIfInBounds_toArray, List.set_cons_zero, List.set_cons_succ])
      clear hHeld
      refine oneM 5 rfl (by kernel_rfl) (by kernel_rfl) (fun K hK => ?_)
      refine sh_store1 HHd.out rfl rfl rfl 4 rfl (Nat.le_of_ble_eq_true rfl) rfl (by kernel_rfl) ?_
      intro w7 hh7
      have HH7 := Lib.hid hh7
      clear hh7 HHd
      refine hK.out _ _ (HH7.out.pair 1 3 rfl rfl rfl) (fun hHeld => ?_)
      clear hK K
      (try simp only [Act.put, List.setIfInBounds_toArray, List.set_cons_zero, List.set_cons_succ])
      refine freeM 6 rfl (by kernel_rfl) (by kernel_rfl) (by kernel_rfl) (fun K hK => ?_)
      refine sh_store1 HH7.out rfl rfl rfl 3 rfl (Nat.le_of_ble_eq_true rfl) rfl (by kernel_rfl) ?_
      intro w8 hh8
      have HH8 := Lib.hid hh8
      clear hh8 HH7
      refine hK.out _ _ ?_
      clear hK K hHeld
      (try simp only [Act.put, List.setIfInBounds_toArray, List.set_cons_zero, List.set_cons_succ])
      refine freeM 7 rfl (by kernel_rfl) (by kernel_rfl) (by kernel_rfl) (fun K hK => ?_)
      refine sh_store1 HH8.out rfl rfl rfl 2 rfl (Nat.le_of_ble_eq_true rfl) rfl (by kernel_rfl) ?_
      intro w9 hh9
      have HH9 := Lib.hid hh9
      clear hh9 HH8
      refine hK.out _ _ ?_
      clear hK K
      (try simp only [Act.put, List.setIfInBounds_toArray, List.set_cons_zero, List.set_cons_succ])
      refine doneM (by kernel_rfl) ?_
      simp only [noP]
      go_wp2_with fail
      refine rc_idle (i := 4) (j := 3) (k := 2) HH9.out rfl rfl rfl rfl rfl rfl ?_
      intro w10 H10
      have h10 := H10
      exact ⟨_, ys, rfl, by rw [hd]; exact HRel.out.bare, HRel.out.ok, Heap.drop4 h10⟩
    | cons r rest =>
      obtain ⟨⟨hs0, hs1⟩, ⟨hn0, hn1⟩, hE, hk, hSq'⟩ := HRel.out.sq
      have hrr := HRS.out r (by rw [HRel.out.spl]; simp)
      have hpos := encB_pos r hrr.1
      have hbs : b = done.flatMap encB ++ (encB r ++ rest.flatMap encB) := by rw [HB.out, HRel.out.spl]; simp
      have hel := encB_len r
      obtain ⟨m, hm⟩ : ∃ m, m = (encB r).length := ⟨_, rfl⟩
      rw [← hm] at hpos hel
      have han : a + m ≤ n := by rw [HN.out, HRel.out.at', hm, hbs]; simp only [List.length_append]; omega
      have hdrop : b.drop a = encB r ++ rest.flatMap encB := by rw [hbs, HRel.out.at', List.drop_left' rfl]
      have htake : (b.drop a).take m = encB r := by rw [hdrop, hm, List.take_left' rfl]
      obtain ⟨p1, p2, p3⟩ := ps_back r (rest.flatMap encB) hrr.1 hrr.2.1 hrr.2.2
      rw [← hdrop] at p1 p2 p3
      rw [← hm] at p2
      have HPar := Lib.hid (fun W (hW : Ext w W) => show Calls Tryz.prog 50 #[.slice (shiftA A c a 1) (n - a) (c - a)] W fun e w' => ∃ y : Rec, e = .returned (.tuple #[.agg y.cells.toArray, .int .i64 m, .int .i64 0]) ∧ y.bare = r.bare ∧ y.on = y.own.length ∧ (y.wf ∧ (sumR y).wf) ∧ Rd w' W.heap.size w'.heap.size y.oA (prps y.own) ∧ Ext W w' from
        (parse_any W (shiftA A c a 1) (n - a) (c - a) (b.drop a) (by rw [List.length_drop, ← HN.out]) (by omega) (by
          have h := HR.out.from_ (n := n) (k := a) (c := c) (size := 1) (by rw [bytes_length, HN.out, Nat.mul_one]) ha hnc
          rw [Nat.mul_one] at h
          have e : bytes (b.drop a) = (bytes b).drop a := by simp [bytes, List.map_drop]
          rw [e]
          exact Rd.at h hW (Nat.le_refl _)) (by omega) (by omega)).mono (fun e w' h => by
          obtain ⟨y, h1, h2, h3, h4, h5⟩ := h
          exact ⟨y, by rw [h1, p1, p2], h2.trans p3, h3, ps_wf h2 h3, h4, h5⟩))
      have hs7 : ∀ W, (Instr.slice 57 (.slice A n c) (some (.int .i64 (a : Int))) none none).run Tryz.prog W = .ok (.slice (shiftA A c a 1) (n - a) (c - a)) W := fun W => run_slice_from W 57 5 j0 1 Tryz.underlying57 hj0 hy1 A n c a _ rfl ha
      have hs9 : ∀ W, (Instr.slice 57 (.slice A n c) (some (.int .i64 (a : Int))) (some (.int .i64 ((a : Int) + (m : Int)))) none).run Tryz.prog W = .ok (.slice (shiftA A c a 1) m (c - a)) W := fun W => by
        have h := slice_mid (P := Tryz.prog) W 57 5 j0 1 Tryz.underlying57 hj0 hy1 A n c a (a + m) (a : Int) ((a : Int) + (m : Int)) rfl (by omega) (by omega) (by omega)
        rwa [Nat.add_sub_cancel_left] at h
      have HRaw := Lib.hid (show Rd w 0 w.heap.size (shiftA A c a 1) (bytes (encB r)) from by
        have h := HR.out.mid (k := a) (m := m) HN.out han hnc
        rwa [htake] at h)
      have HSt := Lib.hid (show ∀ y : Rec, y.bare = r.bare → y.on = y.own.length → (stepR s nx y).err = 0 ∧ (y.kind = 4 → sumR y = su) ∧ stepR s nx y = stepR s nx r from fun y h1 h2 => by
        have h3 : y.on = r.on := by rw [h2, hrr.2.2]; have h4 := congrArg (fun z : Rec => z.own.length) h1; exact h4
        obtain ⟨_, _, a3, a4, _, a6⟩ := same_on h1 h3
        exact ⟨by rw [a4]; exact hE, fun h => by rw [a3]; exact hk (a6 ▸ h), a4 s nx⟩)
      have HSq := Lib.hid hSq'
      have HM := Lib.hid hm
      have HSu := Lib.hid hrr
      clear hSq' hm hrr hbs hdrop htake p1 p2 p3 hE hk
      have hlt : a < n := by omega
      have hlt2 : decide (a < n) = true := by simpa using hlt
      go_upto_region 6 with (refine shl_load1 HH.out rfl rfl rfl 1 rfl rfl (by decide +kernel) ?_)
      go_wp2_with (refine shl_load1 HH.out rfl rfl rfl 3 rfl rfl (by decide +kernel) ?_)
      refine (need_true _ _ _).mono ?_
      rintro e w3 ⟨rfl, rfl⟩
      go_upto_region 7 with fail

      go_wp2_with (refine shl_load1 HH.out rfl rfl rfl 3 rfl rfl (by decide +kernel) ?_)
      refine (HPar.out _ HH.out.ext).mono ?_
      rintro e w4 ⟨y, rfl, hy1, hy2, hy3, hy4, e4⟩
      have HY := Lib.hid (⟨hy1, hy2, hy3, hy4⟩ : y.bare = r.bare ∧ y.on = y.own.length ∧ (y.wf ∧ (sumR y).wf) ∧ _)
      have HH4 := Lib.hid (HH.out.addRd e4 hy4 (Nat.le_refl _))
      clear HH hy1 hy2 hy3 hy4 e4 HPar hs7
      have HH := HH4
      clear HH4
      have HTk := Lib.hid (fun (its : List It) (W : World) (H : Heap w its W) h1 h2 (hy : Rd W 0 W.heap.size y.oA (prps y.own)) => rtk_ok bx 3 2 (by decide) s nx su (.slice Av ys.length cv) ys.length ys H h1 h2 y hy HY.out.2.2.1.1 ⟨by omega, by omega⟩ ⟨by omega, by omega⟩ (HSt.out y HY.out.1 HY.out.2.1).1 (HSt.out y HY.out.1 HY.out.2.1).2.1 (shiftA A c a 1) m (c - a) (encB r) HM.out (by omega) (by omega) HRaw.out (a : Int) (by omega))
      obtain ⟨kind, name, frm, guid, oA, on, oc, own, index, count, data, s0, s1, s2, s3⟩ := y
      simp only [Rec.cells] at HTk ⊢
      go_upto_region 8 with fail
      generalize hwA : World.alloc _ _ = w5
      have HH5 := Lib.hid (HH.out.allocE hwA)
      clear HH hwA
      have HH := HH5
      clear HH5
      go_wp2_with (refine shl_load1 HH.out rfl rfl rfl 5 rfl rfl (by decide +kernel) ?_)
      refine (need_true _ _ _).mono ?_
      rintro e w6 ⟨rfl, rfl⟩
      go_upto_region 9 with fail
      have HHd := Lib.hid HH.out.drew
      clear HH
      refine wp_noP ?_
      refine wp_region_held_drew (S := Heap w [_, _]) (by kernel_rfl) (HHd.out.pair 0 5 rfl rfl rfl) (fun hHeld => ?_)
      generalize World.drew _ = wd at *
      refine takeL 0 (v := ?_) rfl (by kernel_rfl) (by kernel_rfl) (by kernel_rfl) (fun _ _ _ h => h) (by kernel_rfl) ?_ (by assumption) ?_; rotate_left; (focus (intro w hSw; (try dsimp only at hSw); go_simp <;> with_reducible rfl)); (try simp only [Act.put, List.setIfInBounds_toArray, List.set_cons_zero, List.set_cons_succ])
      refine takeL 1 rfl (by kernel_rfl) (by kernel_rfl) (by kernel_rfl) (fun _ _ _ h => h) (by kernel_rfl) (fun wT hST => sh_run_load hST sizeRec (by kernel_rfl) rfl rfl 0 rfl (Nat.le_of_ble_eq_true rfl)) hHeld ?_; (try simp only [Act.put, List.setIfInBounds_toArray, List.set_cons_zero, List.set_cons_succ])
      refine takeL 2 (v := ?_) rfl (by kernel_rfl) (by kernel_rfl) (by kernel_rfl) (fun _ _ _ h => h) (by kernel_rfl) ?_ (by assumption) ?_; rotate_left; (focus (intro w hSw; (try dsimp only at hSw); go_simp <;> with_reducible rfl)); (try simp only [Act.put, List.setIfInBounds_toArray, List.set_cons_zero, List.set_cons_succ])
      refine takeL 3 rfl (by kernel_rfl) (by kernel_rfl) (by kernel_rfl) (fun _ _ _ h => h) (by kernel_rfl) (fun wT hST => sh_run_load1 hST rfl rfl 1 rfl rfl (by kernel_rfl)) hHeld ?_; (try simp only [Act.put, List.setIfInBounds_toArray, List.set_cons_zero, List.set_cons_succ])
      refine takeL 4 rfl (by kernel_rfl) (by kernel_rfl) (by kernel_rfl) (fun _ _ _ h => h) (by kernel_rfl) (fun wT hST => sh_run_load1 hST rfl rfl 1 rfl rfl (by kernel_rfl)) hHeld ?_; (try simp only [Act.put, List.setIfInBounds_toArray, List.set_cons_zero, List.set_cons_succ])
      refine takeL 5 (v := ?_) rfl (by kernel_rfl) (by kernel_rfl) (by kernel_rfl) (fun _ _ _ h => h) (by kernel_rfl) ?_ (by assumption) ?_; rotate_left; (focus (intro w hSw; (try dsimp only at hSw); go_simp <;> with_reducible rfl)); (try simp only [Act.put, List.setIfInBounds_toArray, List.set_cons_zero, List.set_cons_succ])
      refine takeL 6 (v := ?_) rfl (by kernel_rfl) (by kernel_rfl) (by kernel_rfl) (fun _ _ _ h => h) (by kernel_rfl) ?_ (by assumption) ?_; rotate_left; (focus (intro w hSw; (try dsimp only at hSw); go_simp <;> with_reducible rfl)); (try simp only [Act.put, List.setIfInBounds_toArray, List.set_cons_zero, List.set_cons_succ])
      have hsw : IntKind.i64.wrap ((a : Int) + (m : Int)) = (a : Int) + (m : Int) := IntWalk.i64_in _ (by omega)
      simp only [hsw]
      refine takeL 7 (v := ?_) rfl (by kernel_rfl) (by kernel_rfl) (by kernel_rfl) (fun _ _ _ h => h) (by kernel_rfl) ?_ (by assumption) ?_; rotate_left; (focus (intro w hSw; (try dsimp only at hSw); go_simp <;> with_reducible rfl)); (try simp only [Act.put, List.setIfInBounds_toArray, List.set_cons_zero, List.set_cons_succ])
      refine takeL 8 rfl (by kernel_rfl) (by kernel_rfl) (by kernel_rfl) (fun _ _ _ h => h) (by kernel_rfl) (fun wT hST => sh_run_load1 hST rfl rfl 1 rfl rfl (by kernel_rfl)) hHeld ?_; (try simp only [Act.put, List.setIfInBounds_toArray, List.set_cons_zero, List.set_cons_succ])
      clear hsw
      refine oneL 9 rfl (by kernel_rfl) (by kernel_rfl) (fun K hK => ?_); go_simp
      refine (HTk.out _ _ HHd.out rfl rfl ((HHd.out.rdAt 1 rfl).more (Nat.zero_le _) (Nat.le_refl _))).mono ?_
      rintro e w7 ⟨rfl, v7, H7⟩
      have HSt2 := Lib.hid ((HSt.out _ HY.out.1 HY.out.2.1).2.2)
      have HH7 := Lib.hid (show Heap w (_ :: _ :: It.row 27 12 v7 (ys.length + 1) _ :: It.box bx _ :: It.box (b2 + 1 + 1) [.int .i64 0] :: It.box (b2 + 1) [.int .i64 a] :: It.box b2 [.slice none 0 0] :: rdsOf ys) w7 from H7)
      clear H7 HHd HTk
      rw [HSt2.out] at HH7
      go_wp2_with fail
      refine hK.out _ _ (HH7.out.pair 0 5 rfl rfl rfl) (fun hHeld => ?_)
      clear hK K
      (try simp only [Act.put, List.setIfInBounds_toArray, List.set_cons_zero, List.set_cons_succ])
      clear hHeld
      refine wpAnyH_done (by kernel_rfl) ?_ _
      simp only [noP]
      have HH := HH7
      clear HH7
      go_wp2_with (first | (refine shl_load1 HH.out rfl rfl rfl 5 rfl rfl (by decide +kernel) ?_) | (refine shl_store1 HH.out rfl rfl rfl rfl 5 rfl rfl rfl (by kernel_rfl) ?_; clear HH; intro wS HHS; have HH := Lib.hid HHS; clear HHS))
      have hlen : done.length = ys.length := by have := congrArg List.length HRel.out.bare; simpa using this.symm
      have hrl2 : ys.length + 1 ≤ 1000000 := by
        have h1 := HL.out
        rw [HRel.out.spl, List.length_append, List.length_cons] at h1
        omega
      have hbx : Bx wS (b2 + 1) [.int .i64 ((a : Int) + (m : Int))] := HH.out.boxAt 5 rfl
      rw [← Int.natCast_add] at hbx
      have HMe := Lib.hid (atLen_of hbx)
      have h9 := Heap.back (show Heap w (_ :: (It.row 27 12 v7 (ys.length + 1) _ :: It.box bx _ :: It.box (b2 + 1 + 1) [.int .i64 0] :: It.box (b2 + 1) [.int .i64 ((a : Int) + (m : Int))] :: It.box b2 [.slice none 0 0] :: rdsOf ys)) wS from HH.out.tail)
      rw [← Int.natCast_add] at h9
      have HF := Lib.hid (show RcRel w rs bx (b2 + 1 + 1) (b2 + 1) b2 (a + m) (done ++ [r]) rest (ys ++ [⟨kind, name, frm, guid, oA, on, oc, own, index, count, data, s0, s1, s2, s3⟩]) v7 (stepR s nx r).seen (stepR s nx r).next (feed su (encB r)) wS from ⟨by rw [HRel.out.spl]; simp, HSq.out, by
          rw [List.map_append, List.map_append, HRel.out.bare, List.map_cons, List.map_cons, List.map_nil, HY.out.1], ⟨fun y hy => by
          rcases List.mem_append.1 hy with hy | hy
          · exact HRel.out.ok.all y hy
          · rw [List.mem_singleton.1 hy]; exact ⟨HY.out.2.1, HY.out.2.2.1⟩⟩, by rw [HRel.out.at', HM.out]; simp, by
          have e : rdsOf (ys ++ [⟨kind, name, frm, guid, oA, on, oc, own, index, count, data, s0, s1, s2, s3⟩]) = rdsOf ys ++ [It.rd oA (prps own)] := by simp [rdsOf]
          rw [e, List.length_append]
          exact h9⟩)
      clear h9 hbx
      refine ⟨?_, by rw [HMe.out, HM0.out]; omega⟩
      (repeat apply Exists.intro)
      exact ⟨⟨a + m, done ++ [r], rest, ys ++ [⟨kind, name, frm, guid, oA, on, oc, own, index, count, data, s0, s1, s2, s3⟩], v7, (stepR s nx r).seen, (stepR s nx r).next, feed su (encB r), by omega, by rw [List.length_append]; exact hrl2, HF⟩, rfl⟩
end Go.Proofs.YtmecjjmlccdppaaGreatDoor
/- godownlaw22.num: a code's number. -/
namespace Go.Proofs.YtmecjjmlccdppaaGreatDoor
open Go.RowKit
set_option linter.unusedVariables false
set_option linter.unusedSimpArgs false

theorem num_any (w : World) (a : Int) :
    Calls Tryz.prog 14 #[.int .i64 a] w fun e w' => e = .returned (.int .i64 a) ∧ w' = w := by
  go_enter Tryz.func14, Tryz.ntmps14
  go_wp2_with fail
  go_ret
  exact ⟨rfl, rfl⟩

def aliveR : Rec := ⟨1, ⟨#[97]⟩, 0, 1, none, 0, 0, [], 0, 0, ⟨#[]⟩, 0, 0, 0, 0⟩
theorem alive_start : startE ⟨#[120]⟩ aliveR [] 0 = 0 := by decide +kernel
theorem alive_len : (encB aliveR).length = 31 := by decide +kernel
def aliveQ : Su := feed Su.zero (encB aliveR)
theorem alive_A : startA ⟨#[120]⟩ aliveR [] 0 = ⟨⟨#[120]⟩, aliveR, none, 0, 0, [], 31, 0, aliveQ, false⟩ := by
  unfold startA
  rw [if_pos alive_start, alive_len]
  rfl
def aliveY (oA : Option Addr) (oc : Nat) (bA : Option Addr) (bc : Nat) : Stg := ⟨⟨#[120]⟩, ⟨1, ⟨#[97]⟩, 0, 1, oA, 0, oc, [], 0, 0, ⟨#[]⟩, 0, 0, 0, 0⟩, bA, 0, bc, [], 31, 0, aliveQ, false⟩
def aliveT : Rec := ⟨4, ⟨#[]⟩, 0, 0, none, 0, 0, [], 0, 0, ⟨#[]⟩, aliveQ.a, aliveQ.b, aliveQ.c, aliveQ.d⟩
theorem alive_take0 : stakeE (aliveY none 0 none 0) aliveT = 0 := by decide +kernel
theorem alive_take (oA : Option Addr) (oc : Nat) (bA : Option Addr) (bc : Nat) : stakeE (aliveY oA oc bA bc) aliveT = 0 := alive_take0
theorem alive_y (y : Stg) (w : World) (h : y.bare = startA ⟨#[120]⟩ aliveR [] 0) (hr : y.rd w) : ∃ oA oc bA bc, y = aliveY oA oc bA bc := by
  rw [alive_A] at h
  obtain ⟨into, ⟨kind, name, frm, guid, oA, on, oc, own, index, count, data, s0, s1, s2, s3⟩, bA, bn, bc, body, pos, next, su, dn⟩ := y
  have h1 := hr.begL
  have h2 := hr.bodyN
  simp only [Stg.bare, Rec.bare, aliveR, Stg.mk.injEq, Rec.mk.injEq] at h
  obtain ⟨rfl, ⟨rfl, rfl, rfl, rfl, -, -, -, rfl, rfl, rfl, rfl, rfl, rfl, rfl, rfl⟩, -, -, -, rfl, rfl, rfl, rfl, rfl⟩ := h
  dsimp only at h1 h2
  subst h1 h2
  exact ⟨oA, oc, bA, bc, rfl⟩
theorem alive_wf : aliveR.wf := by
  constructor <;> first | decide | (intro p hp; cases hp)
theorem alive_wfT : aliveT.wf := by
  constructor <;> first | decide | (intro p hp; cases hp)
theorem alive_sum : (sumR aliveR).wf := by unfold Su.wf; decide +kernel
theorem alive_q : aliveQ.wf := by unfold Su.wf; decide +kernel
theorem alive_ok (W : World) (oA : Option Addr) (oc : Nat) (bA : Option Addr) (bc : Nat) (hy : (aliveY oA oc bA bc).rd W) : (aliveY oA oc bA bc).ok W where
  into := show (1 : Nat) ≤ 100000000 from by decide
  beg := ⟨alive_wf.frm, alive_wf.guid, alive_wf.index, alive_wf.count, alive_wf.kind, alive_wf.name, alive_wf.data, rfl, alive_wf.on, alive_wf.props⟩
  begR := hy.begR
  begN := Nat.zero_le _
  begS := alive_sum
  bodyN := rfl
  bodyM := Nat.zero_le _
  bodyR := hy.bodyR
  bodyW := fun y hy => absurd hy List.not_mem_nil
  pos := show -9223372036854775808 ≤ (31 : Int) ∧ (31 : Int) ≤ 9223372036854775807 from by decide
  next := show -9223372036854775808 ≤ (0 : Int) ∧ (0 : Int) ≤ 9223372036854775807 from by decide
  su := alive_q
set_option maxRecDepth 100000 in
set_option maxHeartbeats 8000000 in
theorem alive_any (w : World) (hM : MaxV w) : Calls Tryz.prog 15 #[] w fun e w' => e = .returned (.bool true) ∧ Ext w w' := by
  have HSt := Lib.hid (fun W (hW : Ext w W) => start_any W (hM.ext hW) ⟨#[120]⟩ (by decide) aliveR (fun h => absurd rfl h) alive_wf (by decide) alive_sum none 0 0 [] rfl (by decide) (fun h => absurd rfl h) (by intro y hy; cases hy) 0 (by decide) (by decide))
  rw [alive_start] at HSt
  have HTk := Lib.hid (fun W (hW : Ext w W) oA oc bA bc => show Calls Tryz.prog 9 #[.agg (aliveY oA oc bA bc).cells.toArray, .agg aliveT.cells.toArray] W fun e w' => ∃ y : Stg, e = .returned (.tuple #[.agg y.cells.toArray, .int .i64 0]) ∧ y.into = ⟨#[120]⟩ ∧ y.done = true ∧ Ext W w' from
    (take_any W (hM.ext hW) (aliveY oA oc bA bc) (alive_ok W oA oc bA bc ⟨fun h => absurd rfl h, rfl, Nat.zero_le _, rfl, Nat.zero_le _, fun h => absurd rfl h⟩) aliveT (fun h => absurd rfl h) alive_wfT (by decide) alive_q).mono (fun e w' h => by
      obtain ⟨y, rfl, hy, _, _, e5⟩ := h
      rw [alive_take]
      rw [stakeA, if_pos (alive_take oA oc bA bc)] at hy
      refine ⟨y, rfl, ?_, ?_, e5⟩
      · exact congrArg Stg.into hy
      · exact congrArg Stg.done hy))
  go_enter Tryz.func15, Tryz.ntmps15
  go_upto_region 2 with fail
  generalize hwA : World.alloc w _ = w1
  have HH := Lib.hid (Heap.one hwA)
  clear hwA
  go_wp2_with (refine shl_load HH.out sizeRec (by kernel_rfl) rfl rfl rfl 0 rfl rfl ?_)
  refine (HSt.out w1 HH.out.ext).mono ?_
  rintro e w2 ⟨y, rfl, hy, hyr, hyf, e2⟩
  obtain ⟨oA, oc, bA, bc, rfl⟩ := alive_y y w2 hy hyr
  clear hy hyr hyf
  have HH2 := Lib.hid (HH.out.later e2)
  have E2 := Lib.hid (HH.out.ext.trans e2)
  clear HH e2
  have HH := HH2
  clear HH2
  simp only [aliveY, aliveT, Stg.cells, Rec.cells, Su.cells, List.cons_append, List.nil_append] at HTk ⊢
  generalize aliveQ = Q at *
  obtain ⟨qa, qb, qc, qd⟩ := Q
  dsimp only at HTk
  go_upto_region 3 with (refine shl_store (HH.out.alloc _ _) sizeStg rfl rfl rfl rfl 0 rfl rfl rfl rfl ?_; clear HH; intro wS HHS; have HH := Lib.hid HHS; clear HHS)
  go_wp2_with (first | (refine shl_load HH.out sizeStg (by kernel_rfl) rfl rfl rfl 0 rfl rfl ?_) | (refine shl_load HH.out sizeSu (by kernel_rfl) rfl rfl rfl 0 rfl rfl ?_))
  refine (HTk.out _ HH.out.ext oA oc bA bc).mono ?_
  rintro e w5 ⟨y, rfl, hi, hd, e5⟩
  obtain ⟨into, ⟨kind, name, frm, guid, oA2, on, oc2, own, index, count, data, s0, s1, s2, s3⟩, bA2, bn, bc2, body, pos, next, ⟨ua, ub, uc, ud⟩, dn⟩ := y
  dsimp only at hi hd
  subst hi hd
  have HH5 := Lib.hid (HH.out.later e5)
  clear HH e5
  have HH := HH5
  clear HH5
  simp only [Stg.cells, Rec.cells, Su.cells, List.cons_append, List.nil_append]
  go_upto_region 4 with (refine shl_store (HH.out.alloc _ _) sizeStg rfl rfl rfl rfl 0 rfl rfl rfl rfl ?_; clear HH; intro wS2 HHS; have HH := Lib.hid HHS; clear HHS)
  go_wp2_with (first | (go_at_call 14; refine (num_any _ _).mono ?_; rintro e w6 ⟨rfl, rfl⟩) | (go_big_want; refine sh_load1 HH.out rfl rfl 0 rfl rfl (by decide +kernel) ?_) | (refine shl_load1 HH.out rfl rfl rfl 0 rfl rfl (by decide +kernel) ?_))
  go_ret
  exact ⟨rfl, HH.out.ext⟩
end Go.Proofs.YtmecjjmlccdppaaGreatDoor
