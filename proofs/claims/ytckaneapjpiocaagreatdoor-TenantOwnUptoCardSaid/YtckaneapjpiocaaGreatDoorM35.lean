/- The texts Psb, Rr13, Rr14, Rr15, Rr16, Sgl in one file. -/
import Derived.Test.YtckaneapjpiocaaGreatDoorM18
import Derived.Test.YtckaneapjpiocaaGreatDoorM34
import Derived.Test.YtckaneapjpiocaaGreatDoorM25
import Derived.Test.YtckaneapjpiocaaGreatDoorM11
import Derived.Test.YtckaneapjpiocaaGreatDoorM2
namespace Go.Proofs.YtckaneapjpiocaaGreatDoor
open Go.RowKit
set_option linter.unusedVariables false
set_option linter.unusedSimpArgs false
theorem empty_toList {s : ByteArray} (h : s.toList = []) : s = ⟨#[]⟩ := by
  refine empty_of s ?_
  rw [← len_data, ← ByteArray.toList_eq, h]
  rfl
theorem kind_byte (k : Int) (h : 1 ≤ k ∧ k ≤ 4) : ((UInt8.ofNat k.toNat).toNat : Int) = k := by
  rcases (show k = 1 ∨ k = 2 ∨ k = 3 ∨ k = 4 by omega) with rfl | rfl | rfl | rfl <;> rfl
theorem stT_cons (s : ByteArray) (l : List ByteArray) (b : Bool) : stT (s :: l, b) = (s, l, b) := rfl
theorem fV_num8 (z : Int) (h : 0 ≤ z ∧ z ≤ 4611686018427387903) : fV (num8 z) = z ∧ fE (num8 z) = 0 := by
  obtain ⟨h1, h2⟩ := num_back z (by omega) (by omega)
  have e : (num8 z).data.toList = puts z 8 := by simp [num8]
  have hs := num8_size z
  unfold fV fE
  rw [e, hs, if_neg (by omega), if_neg (by omega), if_neg (by omega), if_neg (by omega), h1, if_neg (by omega)]
  exact ⟨h2 (by omega), rfl⟩
theorem stN_cons (z : Int) (h : 0 ≤ z ∧ z ≤ 4611686018427387903) (l : List ByteArray) (b : Bool) : stN (num8 z :: l, b) = (z, l, b) := by
  obtain ⟨h1, h2⟩ := fV_num8 z h
  simp [stN, stT_cons, h1, h2]
theorem pairs_ptext : ∀ (xs : List Prp), pairs (ptext xs) = (xs, true)
  | [] => rfl
  | p :: xs => by
    have ih := pairs_ptext xs
    show pairs (p.name :: p.value :: ptext xs) = _
    rw [pairs, ih]
theorem part8_sumO (su : Su) (h : su.wf) : part8 (sumO su) 0 = su.a ∧ part8 (sumO su) 1 = su.b ∧ part8 (sumO su) 2 = su.c ∧ part8 (sumO su) 3 = su.d := by
  have hp : (256 : Int) ^ 8 = 18446744073709551616 := by decide
  have one (z : Int) (hz : 0 ≤ z ∧ z ≤ 18446744073709551615) : (val (puts z 8) : Int) = z := by
    rw [val_puts z 8, hp]
    omega
  have l8 (z : Int) : (puts z 8).length = 8 := puts_length z 8
  obtain ⟨a, b, c, d⟩ := su
  obtain ⟨h1, h2, h3, h4⟩ := h
  unfold part8 sumO
  refine ⟨?_, ?_, ?_, ?_⟩
  · rw [show ((puts a 8 ++ puts b 8 ++ puts c 8 ++ puts d 8).drop (0 * 8)).take 8 = puts a 8 by
      rw [Nat.zero_mul, List.drop_zero, List.append_assoc, List.append_assoc, List.take_left' (l8 a)]]
    exact one a h1
  · rw [show ((puts a 8 ++ puts b 8 ++ puts c 8 ++ puts d 8).drop (1 * 8)).take 8 = puts b 8 by
      rw [List.append_assoc, List.append_assoc, List.drop_left' (by rw [l8 a]), List.take_left' (l8 b)]]
    exact one b h2
  · rw [show ((puts a 8 ++ puts b 8 ++ puts c 8 ++ puts d 8).drop (2 * 8)).take 8 = puts c 8 by
      rw [List.append_assoc (puts a 8 ++ puts b 8), List.drop_left' (by rw [List.length_append, l8 a, l8 b]), List.take_left' (l8 c)]]
    exact one c h3
  · rw [show ((puts a 8 ++ puts b 8 ++ puts c 8 ++ puts d 8).drop (3 * 8)).take 8 = puts d 8 by
      rw [List.drop_left' (by rw [List.length_append, List.length_append, l8 a, l8 b, l8 c]), List.take_of_length_le (by rw [l8 d]; exact Nat.le_refl _)]]
    exact one d h4
theorem sumOf_sumO (su : Su) (h : su.wf) : sumOf (sumO su) = su ∧ sumE (sumO su) = 0 := by
  obtain ⟨h1, h2, h3, h4⟩ := part8_sumO su h
  have hl := sumO_length su
  unfold sumOf sumE
  rw [if_pos hl, h1, h2, h3, h4, if_neg (by omega), if_neg (by omega)]
  exact ⟨rfl, rfl⟩
theorem read_back (r : Rec) (h : recE r = 0) (hs : (sumR r).wf) (ho : r.on = r.own.length) : readA r.kind (recTexts r) = r.bare ∧ readB r.kind (recTexts r) = true := by
  obtain ⟨hk, hm⟩ := rec_ok h
  obtain ⟨kind, name, frm, guid, oA, on, oc, own, index, count, data, s0, s1, s2, s3⟩ := r
  dsimp only at hk ho
  unfold mayB at hm
  dsimp only at hm
  by_cases k1 : kind = 1
  · subst k1
    rw [if_pos rfl] at hm
    simp only [Bool.and_eq_true, decide_eq_true_eq, beq_iff_eq, sumZ] at hm
    obtain ⟨⟨⟨⟨⟨⟨⟨⟨⟨a1, a2⟩, a3⟩, a4⟩, a5⟩, a6⟩, rfl⟩, rfl⟩, a9⟩, ⟨⟨rfl, rfl⟩, rfl⟩, rfl⟩ := hm
    obtain rfl := empty_toList a9
    have e : recTexts ⟨1, name, frm, guid, oA, on, oc, own, 0, 0, ⟨#[]⟩, 0, 0, 0, 0⟩ = name :: num8 frm :: num8 guid :: ptext own := by simp [recTexts]
    rw [e]
    show readA 1 _ = _ ∧ readB 1 _ = true
    unfold readA readB
    rw [if_pos rfl, if_pos rfl, stT_cons]
    dsimp only
    rw [stN_cons frm (by omega)]
    dsimp only
    rw [stN_cons guid (by omega)]
    dsimp only
    rw [pairs_ptext]
    exact ⟨rfl, rfl⟩
  rw [if_neg k1] at hm
  by_cases k2 : kind = 2
  · subst k2
    rw [if_pos rfl] at hm
    simp only [Bool.and_eq_true, decide_eq_true_eq, beq_iff_eq, sumZ] at hm
    obtain ⟨⟨⟨⟨⟨⟨⟨⟨a1, a2⟩, a3⟩, a4⟩, rfl⟩, rfl⟩, rfl⟩, ⟨⟨rfl, rfl⟩, rfl⟩, rfl⟩, rfl⟩ := hm
    obtain rfl := empty_toList a4
    obtain rfl : own = [] := List.eq_nil_of_length_eq_zero ho.symm
    have e : recTexts ⟨2, ⟨#[]⟩, 0, 0, oA, 0, oc, [], index, 0, data, 0, 0, 0, 0⟩ = [num8 index, data] := by simp [recTexts]
    rw [e]
    show readA 2 _ = _ ∧ readB 2 _ = true
    unfold readA readB
    rw [if_neg (by decide), if_pos rfl, if_neg (by decide), if_pos rfl, stN_cons index (by omega)]
    exact ⟨rfl, rfl⟩
  rw [if_neg k2] at hm
  by_cases k3 : kind = 3
  · subst k3
    rw [if_pos rfl] at hm
    simp only [Bool.and_eq_true, decide_eq_true_eq, beq_iff_eq, sumZ] at hm
    obtain ⟨⟨⟨⟨⟨⟨⟨⟨⟨a1, a2⟩, a3⟩, a4⟩, a5⟩, rfl⟩, rfl⟩, a6⟩, ⟨⟨rfl, rfl⟩, rfl⟩, rfl⟩, rfl⟩ := hm
    obtain rfl := empty_toList a5
    obtain rfl := empty_toList a6
    obtain rfl : own = [] := List.eq_nil_of_length_eq_zero ho.symm
    have e : recTexts ⟨3, ⟨#[]⟩, 0, 0, oA, 0, oc, [], index, count, ⟨#[]⟩, 0, 0, 0, 0⟩ = [num8 index, num8 count] := by simp [recTexts]
    rw [e]
    show readA 3 _ = _ ∧ readB 3 _ = true
    unfold readA readB
    rw [if_neg (by decide), if_neg (by decide), if_pos rfl, if_neg (by decide), if_neg (by decide), if_pos rfl, stN_cons index (by omega)]
    dsimp only
    rw [stN_cons count (by omega)]
    exact ⟨rfl, rfl⟩
  rw [if_neg k3] at hm
  obtain rfl : kind = 4 := by omega
  simp only [Bool.and_eq_true, decide_eq_true_eq, beq_iff_eq] at hm
  obtain ⟨⟨⟨⟨⟨⟨a1, rfl⟩, rfl⟩, rfl⟩, rfl⟩, a2⟩, rfl⟩ := hm
  obtain rfl := empty_toList a1
  obtain rfl := empty_toList a2
  obtain rfl : own = [] := List.eq_nil_of_length_eq_zero ho.symm
  have e : recTexts ⟨4, ⟨#[]⟩, 0, 0, oA, 0, oc, [], 0, 0, ⟨#[]⟩, s0, s1, s2, s3⟩ = [⟨(sumO ⟨s0, s1, s2, s3⟩).toArray⟩] := by simp [recTexts, sumR]
  rw [e]
  obtain ⟨q1, q2⟩ := sumOf_sumO ⟨s0, s1, s2, s3⟩ hs
  show readA 4 _ = _ ∧ readB 4 _ = true
  unfold readA readB
  rw [if_neg (by decide), if_neg (by decide), if_neg (by decide), if_neg (by decide), if_neg (by decide), if_neg (by decide), stT_cons]
  dsimp only
  rw [q1, q2]
  exact ⟨rfl, rfl⟩
theorem ps_parts (k : UInt8) (t rest : List UInt8) (ht : t.length < 65536) :
    psN ([k] ++ puts t.length 2 ++ t ++ rest) = t.length ∧ psT ([k] ++ puts t.length 2 ++ t ++ rest) = t ∧ ¬ ([k] ++ puts t.length 2 ++ t ++ rest).length < 3 + t.length := by
  have h2 : (puts (t.length : Int) 2).length = 2 := puts_length _ _
  have e : [k] ++ puts t.length 2 ++ t ++ rest = k :: (puts t.length 2 ++ (t ++ rest)) := by simp
  have hN : psN ([k] ++ puts t.length 2 ++ t ++ rest) = t.length := by
    rw [e, psN, List.drop_succ_cons, List.drop_zero, List.take_left' h2]
    exact val_puts_small _ _ (by omega)
  refine ⟨hN, ?_, ?_⟩
  · rw [psT, hN, e, show (3 : Nat) = 2 + 1 from rfl, List.drop_succ_cons, List.drop_left' h2, List.take_left' rfl]
  · simp only [List.length_append, List.length_cons, List.length_nil, h2]
    omega
theorem recE_bare (r : Rec) (h : recE r = 0) (ho : r.on = r.own.length) : recE r.bare = 0 := by
  refine (recE_of (y := r) rfl ho ?_).symm.trans h
  by_cases k1 : r.kind = 1
  · exact .inl k1
  · right
    obtain ⟨hk, hm⟩ := rec_ok h
    have : r.on = 0 := by
      unfold mayB at hm
      rw [if_neg k1] at hm
      split at hm
      · simp only [Bool.and_eq_true, decide_eq_true_eq] at hm; exact hm.2
      · split at hm
        · simp only [Bool.and_eq_true, decide_eq_true_eq] at hm; exact hm.2
        · simp only [Bool.and_eq_true, decide_eq_true_eq] at hm; exact hm.2
    exact List.eq_nil_of_length_eq_zero (show r.own.length = 0 by omega)
theorem ps_back (r : Rec) (rest : List UInt8) (h : recE r = 0) (hs : (sumR r).wf) (ho : r.on = r.own.length) : psE (encB r ++ rest) = 0 ∧ psM (encB r ++ rest) = (encB r).length ∧ psA (encB r ++ rest) = r.bare := by
  have hk := kind_bd r h
  have hf := texts_fit r h
  have hl := encB_len r
  have hB : encB r = [UInt8.ofNat r.kind.toNat] ++ puts (wB (recTexts r)).length 2 ++ wB (recTexts r) := by rw [encB, if_pos h]
  have ht : (wB (recTexts r)).length < 65536 := by rw [hB, List.length_append] at hl; omega
  have hlen : (encB r).length = 3 + (wB (recTexts r)).length := by rw [hB]; simp [puts_length]; omega
  obtain ⟨p1, p2, p3⟩ := ps_parts (UInt8.ofNat r.kind.toNat) (wB (recTexts r)) rest ht
  rw [← hB] at p1 p2 p3
  obtain ⟨r1, r2⟩ := read_back r h hs ho
  have hd : rd (psT (encB r ++ rest)) = (0, recTexts r) := by
    rw [p2]
    have := rdw_flat (recTexts r) hf []
    simpa using this
  have hkb := kind_byte r.kind hk
  have hE : psE (encB r ++ rest) = 0 := by
    have e : encB r ++ rest = UInt8.ofNat r.kind.toNat :: (puts (wB (recTexts r)).length 2 ++ (wB (recTexts r) ++ rest)) := by rw [hB]; simp
    have e2 : psE (encB r ++ rest) = if (UInt8.ofNat r.kind.toNat).toNat < 1 ∨ 4 < (UInt8.ofNat r.kind.toNat).toNat then 23 else if (encB r ++ rest).length < 3 then 8 else if (encB r ++ rest).length < 3 + psN (encB r ++ rest) then 8
        else if (rd (psT (encB r ++ rest))).1 ≠ 0 ∨ readB (UInt8.ofNat r.kind.toNat).toNat (rd (psT (encB r ++ rest))).2 = false then 33 else if recE (readA (UInt8.ofNat r.kind.toNat).toNat (rd (psT (encB r ++ rest))).2) ≠ 0 then 9 else 0 := by
      rw [e]; rfl
    rw [e2, if_neg (by omega), if_neg (by omega), p1, if_neg p3, hd, hkb, if_neg (by rw [r2]; simp), r1, if_neg (by rw [recE_bare r h ho]; simp)]
  refine ⟨hE, ?_, ?_⟩
  · rw [psM, if_pos hE, p1, hlen]
  · rw [psA, if_pos hE, hd]
    have hh : (encB r ++ rest).headD 0 = UInt8.ofNat r.kind.toNat := by rw [hB]; rfl
    rw [hh, hkb]
    exact r1
open Go.RowKit Go.Maps Go.Sort Go.Shelf
set_option linter.unusedVariables false
set_option linter.unusedSimpArgs false
def octD (p : ByteArray × List ByteArray) : ByteArray × List UInt8 := (p.1, flat p.2)
theorem rd_texts (l : List ByteArray) (h : wE l = 0) : rd (flat l) = (0, l) := by
  have := rdw_flat l h []
  rw [List.append_nil, wB, if_pos h] at this
  simpa using this
theorem rNm_num (m z : Int) (l : List ByteArray) (h0 : 0 ≤ z) (h1 : z ≤ m) (hm : z ≤ 4611686018427387903) : rNm m (num8 z :: l) = some (z, l) := by
  obtain ⟨q1, q2⟩ := fV_num8 z ⟨h0, hm⟩
  rw [rNm, q1, q2, if_pos ⟨rfl, h1⟩]
theorem prO_ptext : ∀ xs : List Prp, prO (ptext xs) = xs
  | [] => rfl
  | p :: xs => by
    show prO (p.name :: p.value :: ptext xs) = _
    rw [prO, prO_ptext xs]
theorem rOwn_back (xs : List Prp) (r : List ByteArray) (h : prE xs = 0) : rOwn (ownT xs ++ r) = some (xs, r) := by
  obtain ⟨h8, _⟩ := pr_small xs h
  have hl : (ptext xs).length = 2 * xs.length := by rw [ptext_length]; omega
  rw [rOwn, ownT, List.cons_append, rNm_num 8 _ _ (by omega) (by omega) (by omega), Option.bind_some]
  simp only [Int.toNat_natCast]
  rw [if_neg (by rw [List.length_append]; omega), List.take_left' hl, List.drop_left' hl, prO_ptext, if_pos h]
theorem blkR_cons (p l : List UInt8) (h : p.length = 18) : blkR (p ++ l) = blkP p :: blkR l := by
  have h1 : (p ++ l).length / 18 = l.length / 18 + 1 := by rw [List.length_append]; omega
  rw [blkR, h1, List.range_succ_eq_map, List.map_cons, List.map_map]
  congr 1
  · rw [prtB, Nat.zero_mul, List.drop_zero, List.take_left' h]
  · rw [blkR]
    refine List.map_congr_left fun k _ => ?_
    show blkP (prtB (p ++ l) (k + 1)) = _
    rw [prtB, prtB, show (k + 1) * 18 = 18 + k * 18 by omega, ← List.drop_drop, List.drop_left' h]
theorem blkP_one (x : Blk) (h : 0 ≤ x.index ∧ x.index < 1024) : blkP (puts x.index 2 ++ x.data.data.toList) = x := by
  have h2 : (puts x.index 2).length = 2 := puts_length _ _
  have hv : numV (puts x.index 2) = x.index := by
    have h3 := val_puts x.index 2
    have h4 : (256 : Int) ^ 2 = 65536 := by decide
    unfold numV
    rw [h2, if_neg (by omega), if_neg (by omega), if_neg (by omega), h3]
    omega
  rw [blkP, List.take_left' h2, List.drop_left' h2, hv]
theorem bk_index (xs : List Blk) (h : bkE xs = 0) : ∀ x ∈ xs, 0 ≤ x.index ∧ x.index < 1024 := by
  have hb : bkUpto xs xs.length = false := by
    rw [bkE] at h
    cases hq : bkUpto xs xs.length with
    | false => rfl
    | true => rw [hq] at h; cases h
  intro x hx
  obtain ⟨k, hk, rfl⟩ := List.getElem_of_mem hx
  have hq : bkBad xs k = false := by
    cases hq : bkBad xs k with
    | false => rfl
    | true => rw [bkUpto_at xs k _ hk hq] at hb; cases hb
  rw [bkBad_at xs k hk, Bool.or_eq_false_iff] at hq
  have := hq.1
  simp only [badOne, Bool.or_eq_false_iff, decide_eq_false_iff_not, Decidable.not_not] at this
  omega
theorem blkR_back (xs : List Blk) (h : ∀ x ∈ xs, 0 ≤ x.index ∧ x.index < 1024) (h16 : ∀ x ∈ xs, x.data.size = 16) : blkR (blkO xs) = xs := by
  induction xs with
  | nil => rfl
  | cons x xs ih =>
    have hl : (puts x.index 2 ++ x.data.data.toList).length = 18 := by
      rw [List.length_append, puts_length]
      have : x.data.data.toList.length = x.data.size := Array.length_toList
      have := h16 x (by simp)
      omega
    rw [blkO, List.flatMap_cons, blkR_cons _ _ hl, blkP_one x (h x (by simp))]
    congr 1
    exact ih (fun y hy => h y (by simp [hy])) (fun y hy => h16 y (by simp [hy]))
theorem strO_list (l : List UInt8) : (strO l).data.toList = l := rfl
theorem rBody_back (xs : List Blk) (r : List ByteArray) (h : bkE xs = 0) : rBody (strO (blkO xs) :: r) = some (xs, r) := by
  obtain ⟨_, h16⟩ := bk_small xs h
  have hi := bk_index xs h
  have hR := blkR_back xs hi h16
  rw [rBody, strO_list, hR, brdB, hR, h, blkO_len xs h16]
  simp
theorem rRep_back {α : Type} (f : List ByteArray → Option (α × List ByteArray)) (g : α → List ByteArray) (h : α → α) (xs : List α) (r : List ByteArray) (hx : ∀ x ∈ xs, ∀ r, f (g x ++ r) = some (h x, r)) : rRep f xs.length (xs.flatMap g ++ r) = some (xs.map h, r) := by
  induction xs with
  | nil => rfl
  | cons x xs ih =>
    rw [List.length_cons, rRep, List.flatMap_cons, List.append_assoc, hx x (by simp), Option.bind_some, ih (fun y hy => hx y (by simp [hy])), Option.bind_some]; rfl
theorem amtB_bd {z l : Int} (h : amtB z l = true) : l ≤ z ∧ z ≤ 1099511627776 := by
  simpa [amtB] using h
theorem rAm_num (z : Int) (l : List ByteArray) (h0 : 0 ≤ z) (h1 : z ≤ 1099511627776) : rAm (num8 z :: l) = some (z, l) := rNm_num _ z l h0 h1 (by omega)
theorem rSna_back (x : Sna) (r : List ByteArray) (h : snB x = true) : rSna (snaT x ++ r) = some (x.bare, r) := by
  simp only [snB, tagB, Bool.and_eq_true, decide_eq_true_eq] at h
  obtain ⟨h1, h2, h3, h4, _⟩ := h
  have h1 := amtB_bd h1
  have e : snaT x ++ r = x.name :: num8 x.guid :: (ownT x.own.xs ++ (num8 (x.tags.xs.length : Int) :: (x.tags.xs ++ (strO (blkO x.body.xs) :: r)))) := by simp [snaT]
  rw [e, rSna, rTx, Option.bind_some]
  simp only []
  rw [rAm_num _ _ (by omega) h1.2, Option.bind_some]
  simp only []
  rw [rOwn_back _ _ h3, Option.bind_some]
  simp only []
  rw [rNm_num 4 _ _ (by omega) (by omega) (by omega), Option.bind_some]
  simp only [Int.toNat_natCast]
  rw [rTxs, if_neg (by rw [List.length_append]; omega), Option.bind_some]
  simp only []
  rw [List.take_left' rfl, List.drop_left' rfl, rBody_back _ _ h2, Option.bind_some]; rfl
theorem rDst_back (sets : List Dst) (x : Dst) (h : seB sets x = true) : rDst x.path (dstT x) = some x.bare := by
  simp only [seB, Bool.and_eq_true, decide_eq_true_eq] at h
  obtain ⟨_, _, ho, hb, hs, _⟩ := h
  simp only [snsB, Bool.and_eq_true, decide_eq_true_eq, List.all_eq_true] at hs
  rw [rDst, dstT, rTx, Option.bind_some]
  simp only []
  rw [rOwn_back _ _ ho, Option.bind_some]
  simp only []
  rw [rBody_back _ _ hb, Option.bind_some]
  simp only []
  rw [rNm_num 16 _ _ (by omega) (by omega) (by omega), Option.bind_some]
  simp only [Int.toNat_natCast]
  have := rRep_back rSna snaT Sna.bare x.snaps.xs [] (fun y hy r => rSna_back y r (hs.2.1 y hy))
  rw [List.append_nil] at this
  rw [this, Option.bind_some]; rfl
theorem rStg_back (x : Stg) (h : stB x = true) (ho : x.beg.on = x.beg.own.length) (hs : (sumR x.beg).wf) (hu : x.su.wf) : rStg x.into (stgT x) = some x.bare := by
  simp only [stB, Bool.and_eq_true, decide_eq_true_eq, beq_iff_eq, amt] at h
  obtain ⟨_, _, hk, hr, hb, h1, h2⟩ := h
  obtain ⟨p1, p2, p3⟩ := ps_back x.beg [] hr hs ho
  rw [List.append_nil] at p1 p2 p3
  obtain ⟨s1, s2⟩ := sumOf_sumO x.su hu
  rw [rStg, stgT, rRec, strO_list, p1, p2, p3, if_pos ⟨rfl, (strO_size _).symm⟩, Option.bind_some]
  simp only []
  rw [rBody_back _ _ hb, Option.bind_some]
  simp only []
  rw [rAm_num _ _ h1.1 h1.2, Option.bind_some]
  simp only []
  rw [rAm_num _ _ h2.1 h2.2, Option.bind_some]
  simp only []
  rw [rSum, strO_list, s1, s2, if_pos rfl, Option.bind_some]
  simp only []
  cases hd : x.done with
  | false =>
    rw [if_neg (by decide), rNm_num 1 _ _ (by decide) (by decide) (by decide), Option.bind_some]
    simp only []
    rw [rEnd, if_pos rfl, Option.bind_some, Stg.bare, hd]; rfl
  | true =>
    rw [if_pos rfl, rNm_num 1 _ _ (by decide) (by decide) (by decide), Option.bind_some]
    simp only []
    rw [rEnd, if_pos rfl, Option.bind_some, Stg.bare, hd]; rfl
theorem rGra_back (x : Gra) (r : List ByteArray) (h : grB1 x = true) : rGra (graT x ++ r) = some (x, r) := by
  simp only [grB1, Bool.and_eq_true, decide_eq_true_eq] at h
  rw [rGra, graT]
  simp only [List.cons_append, List.nil_append, rTx, Option.bind_some]
  rw [rAm_num _ _ (by omega) (by omega), Option.bind_some]
theorem rLin_back (x : Lin) (r : List ByteArray) (h : liB x = true) : rLin (linT x ++ r) = some (x, r) := by
  simp only [liB, Bool.and_eq_true] at h
  have h1 := amtB_bd h.2.2.1
  have h2 := amtB_bd h.2.2.2
  rw [rLin, linT]
  simp only [List.cons_append, List.nil_append, rTx, Option.bind_some]
  rw [rAm_num _ _ h1.1 h1.2, Option.bind_some]
  simp only [rTx, Option.bind_some]
  rw [rAm_num _ _ h2.1 h2.2, Option.bind_some]
theorem rHd_back (t : Tnt) (hq : amtB t.quota 0 = true) (hn : amtB t.next 1 = true) (hg : grB t.grants.xs = true) (hl : t.log.xs.length ≤ 16) (hl2 : t.log.xs.all liB = true) : rHd t.name (headT t) = some ⟨t.name, t.quota, t.next, slB [], slB t.grants.xs, slB [], slB t.log.xs⟩ := by
  have hq := amtB_bd hq
  have hn := amtB_bd hn
  simp only [grB, Bool.and_eq_true, decide_eq_true_eq, List.all_eq_true] at hg hl2
  rw [rHd, headT, rAm_num _ _ hq.1 hq.2, Option.bind_some]
  simp only []
  rw [rAm_num _ _ (by omega) hn.2, Option.bind_some]
  simp only []
  rw [rNm_num 16 _ _ (by omega) (by omega) (by omega), Option.bind_some]
  simp only [Int.toNat_natCast]
  have e1 := rRep_back rGra graT id t.grants.xs (num8 (t.log.xs.length : Int) :: t.log.xs.flatMap linT) (fun y hy r => rGra_back y r (hg.2.1 y hy))
  rw [List.map_id] at e1
  rw [e1, Option.bind_some]
  simp only []
  rw [rNm_num 16 _ _ (by omega) (by omega) (by omega), Option.bind_some]
  simp only [Int.toNat_natCast]
  have e2 := rRep_back rLin linT id t.log.xs [] (fun y hy r => rLin_back y r (hl2 y hy))
  rw [List.map_id, List.append_nil] at e2
  rw [e2, Option.bind_some]; rfl
open Go.RowKit Go.Maps Go.Sort Go.Shelf
set_option linter.unusedVariables false
set_option linter.unusedSimpArgs false
theorem ba_ext {a b : ByteArray} (h : a.data.toList = b.data.toList) : a = b := by
  obtain ⟨⟨a⟩⟩ := a
  obtain ⟨⟨b⟩⟩ := b
  cases h; rfl
theorem ba_app (a b : ByteArray) : (a ++ b).data.toList = a.data.toList ++ b.data.toList := by simp
theorem key_T (n : ByteArray) : keyO [kT, n] = pT n := by
  refine ba_ext ?_
  rw [pT, ba_app, keyO]
  simp [Go.Lib.join, kT]
theorem key_S (n p : ByteArray) : keyO [kS, n, p] = pS n ++ p := by
  refine ba_ext ?_
  rw [pS, ba_app, ba_app, ba_app, keyO]
  simp [Go.Lib.join, kS]
theorem key_G (n p : ByteArray) : keyO [kG, n, p] = pG n ++ p := by
  refine ba_ext ?_
  rw [pG, ba_app, ba_app, ba_app, keyO]
  simp [Go.Lib.join, kG]
theorem cutP_app (p s : ByteArray) : cutP (p ++ s) p = (s, true) := by
  have h1 : (p ++ s).extract 0 p.size = p := by
    refine ba_ext ?_
    simp [ByteArray.data_extract]
    exact List.take_of_length_le (Nat.le_of_eq Array.length_toList)
  have h2 : (p ++ s).extract p.size (p ++ s).size = s := by
    refine ba_ext ?_
    simp [ByteArray.data_extract]
    rw [show List.drop p.size p.data.toList = [] from List.drop_eq_nil_of_le (Nat.le_of_eq Array.length_toList), show List.take s.size s.data.toList = s.data.toList from List.take_of_length_le (Nat.le_of_eq Array.length_toList)]
    simp
  have h3 : hasP (p ++ s) p = true := by
    rw [hasP, h1, ByteArray.size_append]
    simp
  rw [cutP, if_pos h3, h2]
theorem cutP_no (n s : ByteArray) : (cutP (pG n ++ s) (pS n)).2 = false := by
  have h : hasP (pG n ++ s) (pS n) = false := by
    cases hq : hasP (pG n ++ s) (pS n) with
    | false => rfl
    | true =>
      rw [hasP, Bool.and_eq_true, beq_iff_eq] at hq
      have h1 := hq.2
      rw [ByteArray.toList_eq, ByteArray.toList_eq] at h1
      have e1 : (pS n).data.toList = 115 :: 47 :: (n.data.toList ++ [47]) := by rw [pS, ba_app, ba_app]; rfl
      have e2 : (pG n ++ s).data.toList = 103 :: 47 :: (n.data.toList ++ [47] ++ s.data.toList) := by rw [pG, ba_app, ba_app, ba_app]; rfl
      have e3 : (pS n).size = n.size + 2 + 1 := by rw [pS, ByteArray.size_append, ByteArray.size_append, Nat.add_comm _ n.size]; rfl
      have e4 : ((pG n ++ s).extract 0 (pS n).size).data.toList = (pG n ++ s).data.toList.take (pS n).size := by
        simp [ByteArray.data_extract]
        exact List.take_append.symm
      rw [e4, e1, e2, e3, List.take_succ_cons] at h1
      cases h1
  rw [cutP, h]; rfl
theorem rFold_back (name : ByteArray) (ss : List Dst) (gs : List Stg) (all : List Dst) (hs : ∀ x ∈ ss, seB all x = true) (hg : ∀ x ∈ gs, stB x = true ∧ x.beg.on = x.beg.own.length ∧ (sumR x.beg).wf ∧ x.su.wf) (hw : ∀ x ∈ ss, wE (dstT x) = 0) (hv : ∀ x ∈ gs, wE (stgT x) = 0)
    (q nx : Int) (ss0 : List Dst) (gr : List Gra) (lg : List Lin) :
    rFold name ⟨name, q, nx, slB (ss0.map Dst.bare), slB gr, slB [], slB lg⟩ ((ss.map (fun s => (keyO [kS, name, s.path], dstT s)) ++ gs.map (fun s => (keyO [kG, name, s.into], stgT s))).map octD) = some ⟨name, q, nx, slB ((ss0 ++ ss).map Dst.bare), slB gr, slB (gs.map Stg.bare), slB lg⟩ := by
  induction ss generalizing ss0 with
  | nil =>
    suffices ∀ (gs : List Stg) (g0 : List Stg), (∀ x ∈ gs, stB x = true ∧ x.beg.on = x.beg.own.length ∧ (sumR x.beg).wf ∧ x.su.wf) → (∀ x ∈ gs, wE (stgT x) = 0) → rFold name ⟨name, q, nx, slB (ss0.map Dst.bare), slB gr, slB (g0.map Stg.bare), slB lg⟩ ((gs.map (fun s => (keyO [kG, name, s.into], stgT s))).map octD) = some ⟨name, q, nx, slB (ss0.map Dst.bare), slB gr, slB ((g0 ++ gs).map Stg.bare), slB lg⟩ by
      have := this gs [] hg hv
      simpa using this
    intro gs
    induction gs with
    | nil => intro g0 _ _; simp [rFold]
    | cons x gs ih =>
      intro g0 hg hv
      obtain ⟨a1, a2, a3, a4⟩ := hg x (by simp)
      have hw := hv x (by simp)
      rw [List.map_cons, List.map_cons, rFold, rStep, octD]
      simp only []
      have hc := cutP_no name x.into
      rw [← key_G] at hc
      rw [rStp, hc, Bool.false_and, cond_false, key_G, cutP_app]
      simp only [cond_true]
      rw [rStage, rd_texts _ hw, if_pos rfl]
      simp only []
      rw [rStg_back x a1 a2 a3 a4, Option.bind_some, Option.bind_some]
      have := ih (g0 ++ [x]) (fun y hy => hg y (by simp [hy])) (fun y hy => hv y (by simp [hy]))
      simpa [slB] using this
  | cons x ss ih =>
    have hw1 := hw x (by simp)
    rw [List.map_cons, List.cons_append, List.map_cons, rFold, rStep, octD]
    simp only []
    rw [rStp, key_S, cutP_app]
    simp only [slB, List.isEmpty_nil, Bool.and_self, cond_true]
    rw [rSet, rd_texts _ hw1, if_pos rfl]
    simp only []
    rw [rDst_back all x (hs x (by simp)), Option.bind_some, Option.bind_some]
    have := ih (fun y hy => hs y (by simp [hy])) (fun y hy => hw y (by simp [hy])) (ss0 ++ [x])
    simpa [slB] using this
theorem wE_of {l : List ByteArray} (h1 : l.length ≤ 1024) (h2 : ∀ s ∈ l, s.size ≤ 65536) : wE l = 0 := (wE_zero l).2 ⟨h1, h2⟩
theorem rTen_back (t : Tnt) (h : tenB t = true) (hg : ∀ x ∈ t.stages.xs, x.beg.on = x.beg.own.length ∧ (sumR x.beg).wf ∧ x.su.wf) : rTen t.name ((objT t).map octD) = some t.bare := by
  have h9 := h
  simp only [tenB, Bool.and_eq_true, decide_eq_true_eq] at h
  obtain ⟨_, hq, hn, hs, hgr, hst, hl, hl2⟩ := h
  simp only [setsB, Bool.and_eq_true, List.all_eq_true, decide_eq_true_eq] at hs
  simp only [stsB, Bool.and_eq_true, List.all_eq_true, decide_eq_true_eq] at hst
  obtain ⟨a1, a2, a3⟩ := head_small t hgr hl hl2
  have hw0 := wE_of (Nat.le_trans a1 (by decide)) (fun s hs => Nat.le_trans (a3 s hs) (by decide))
  rw [objT, List.map_cons, rTen]
  simp only [octD]
  rw [key_T]
  simp only [↓reduceIte]
  rw [rHead, rd_texts _ hw0, if_pos rfl]
  simp only []
  rw [rHd_back t hq hn hgr hl hl2, Option.bind_some]
  have := rFold_back t.name t.sets.xs t.stages.xs t.sets.xs hs.2.2.1 (fun x hx => ⟨hst.2.1 x hx, hg x hx⟩) (fun x hx => by
    obtain ⟨b1, _, b3, _⟩ := dst_small t.sets.xs x (hs.2.2.1 x hx)
    exact wE_of (Nat.le_trans b1 (by decide)) (fun s hs => Nat.le_trans (b3 s hs) (by decide))) (fun x hx => by
    obtain ⟨b1, _, b3, _⟩ := stg_small x (hst.2.1 x hx)
    exact wE_of (Nat.le_trans b1 (by decide)) (fun s hs => Nat.le_trans (b3 s hs) (by decide))) t.quota t.next [] t.grants.xs t.log.xs
  simp only [List.map_nil] at this
  rw [this, Option.bind_some]
  have hb := tenB_bare t (fun x hx => (hg x hx).1)
  rw [h9] at hb
  exact if_pos hb
open Go.RowKit Go.Maps Go.Sort Go.Shelf
set_option linter.unusedVariables false
set_option linter.unusedSimpArgs false
theorem num8_fV {s : ByteArray} (hE : fE s = 0) : num8 (fV s) = s := by
  unfold fE at hE
  have h8 : s.size = 8 := by
    split at hE
    · cases hE
    · split at hE
      · cases hE
      · omega
  rw [if_neg (by omega), if_neg (by omega)] at hE
  have hl : s.data.toList.length = 8 := by rw [len_data]; exact h8
  have hv : fV s = (val s.data.toList : Int) := by
    rw [fV, if_neg (by omega), if_neg (by omega)]
    unfold numV
    unfold numE at hE
    rw [if_neg (by omega), if_neg (by omega)] at hE ⊢
    split at hE
    · cases hE
    · rename_i hn
      rw [if_neg hn]
  rw [hv]
  have hp := puts_val s.data.toList
  rw [hl] at hp
  show (⟨(puts (val s.data.toList) 8).toArray⟩ : ByteArray) = s
  rw [hp]
theorem rNm_inv {m z : Int} {ts r : List ByteArray} (h : rNm m ts = some (z, r)) : ts = num8 z :: r ∧ 0 ≤ z ∧ z ≤ m := by
  cases ts with
  | nil => cases h
  | cons s l =>
    rw [rNm] at h
    split at h
    · rename_i h1
      cases h
      rw [num8_fV h1.1]
      exact ⟨rfl, (fV_nn s).1, h1.2⟩
    · cases h
theorem rTx_inv {ts r : List ByteArray} {s : ByteArray} (h : rTx ts = some (s, r)) : ts = s :: r := by
  cases ts with
  | nil => cases h
  | cons a l => cases h; rfl
theorem ptext_prO : ∀ l : List ByteArray, l.length % 2 = 0 → ptext (prO l) = l
  | [], _ => rfl
  | [a], h => by simp at h
  | a :: b :: l, h => by
    show a :: b :: ptext (prO l) = _
    rw [ptext_prO l (by simp only [List.length_cons] at h; omega)]
theorem rOwn_inv {ts r : List ByteArray} {xs : List Prp} (h : rOwn ts = some (xs, r)) : ts = ownT xs ++ r := by
  rw [rOwn, Option.bind_eq_some_iff] at h
  obtain ⟨⟨k, us⟩, h1, h⟩ := h
  obtain ⟨rfl, k0, k8⟩ := rNm_inv h1
  simp only [] at h
  obtain ⟨K, rfl⟩ : ∃ K : Nat, k = (K : Int) := ⟨k.toNat, by omega⟩
  rw [Int.toNat_natCast] at h
  split at h
  · cases h
  · split at h
    · rename_i h2 h3
      cases h
      have hl : (us.take (2 * K)).length = 2 * K := by rw [List.length_take]; omega
      have e : (prO (us.take (2 * K))).length = K := by rw [prO_len, hl]; omega
      rw [ownT, e, ptext_prO _ (by rw [hl]; omega), List.cons_append, List.take_append_drop]
    · cases h
theorem blkR_one (l : List UInt8) (h : 18 ≤ l.length) : blkR l = blkP (l.take 18) :: blkR (l.drop 18) := by
  have := blkR_cons (l.take 18) (l.drop 18) (by rw [List.length_take]; omega)
  rwa [List.take_append_drop] at this
theorem blkO_blkR : ∀ (n : Nat) (l : List UInt8), l.length = 18 * n → blkO (blkR l) = l
  | 0, l, h => by
    have : l = [] := List.eq_nil_of_length_eq_zero (by omega)
    subst this; rfl
  | n + 1, l, h => by
    rw [blkR_one l (by omega), blkO, List.flatMap_cons]
    have ih := blkO_blkR n (l.drop 18) (by rw [List.length_drop]; omega)
    rw [blkO] at ih
    rw [ih]
    have h2 : ((l.take 18).take 2).length = 2 := by simp; omega
    have hp := puts_val ((l.take 18).take 2)
    rw [h2] at hp
    have hv : numV ((l.take 18).take 2) = val ((l.take 18).take 2) := by
      have := val_lt ((l.take 18).take 2)
      rw [h2] at this
      unfold numV
      rw [h2, if_neg (by omega), if_neg (by omega), if_neg (by omega)]
    rw [blkP]
    simp only []
    rw [hv, hp]
    show (l.take 18).take 2 ++ (l.take 18).drop 2 ++ l.drop 18 = l
    rw [List.take_append_drop, List.take_append_drop]
theorem strO_data (s : ByteArray) : strO s.data.toList = s := by obtain ⟨⟨l⟩⟩ := s; rfl
theorem rBody_inv {ts r : List ByteArray} {xs : List Blk} (h : rBody ts = some (xs, r)) : ts = strO (blkO xs) :: r := by
  cases ts with
  | nil => cases h
  | cons s l =>
    rw [rBody] at h
    split at h
    · rename_i h1
      cases h
      rw [brdB, Bool.and_eq_true, decide_eq_true_eq] at h1
      rw [blkO_blkR (s.data.toList.length / 18) _ (by omega), strO_data]
    · cases h
theorem rRep_inv {α : Type} {f : List ByteArray → Option (α × List ByteArray)} {g : α → List ByteArray} (hf : ∀ ts x r, f ts = some (x, r) → ts = g x ++ r) : ∀ {n : Nat} {ts r : List ByteArray} {xs : List α}, rRep f n ts = some (xs, r) → ts = xs.flatMap g ++ r ∧ xs.length = n
  | 0, ts, r, xs, h => by cases h; exact ⟨rfl, rfl⟩
  | n + 1, ts, r, xs, h => by
    rw [rRep, Option.bind_eq_some_iff] at h
    obtain ⟨⟨a, us⟩, h1, h⟩ := h
    rw [Option.bind_eq_some_iff] at h
    obtain ⟨⟨ys, r'⟩, h2, h⟩ := h
    cases h
    obtain ⟨e, hl⟩ := rRep_inv hf h2
    have := hf _ _ _ h1
    dsimp only at e this
    rw [this, e, List.flatMap_cons, List.append_assoc]
    exact ⟨rfl, by rw [List.length_cons, hl]⟩
theorem rSna_inv {ts r : List ByteArray} {px : Sna} (h : rSna ts = some (px, r)) : ts = snaT px ++ r := by
  simp only [rSna, Option.bind_eq_some_iff] at h
  obtain ⟨⟨nm, u1⟩, h1, ⟨gd, u2⟩, h2, ⟨ow, u3⟩, h3, ⟨k, u4⟩, h4, ⟨tg, u5⟩, h5, ⟨bd, u6⟩, h6, h⟩ := h
  cases h
  have e1 := rTx_inv h1
  obtain ⟨e2, _⟩ := rNm_inv h2
  have e3 := rOwn_inv h3
  obtain ⟨e4, k0, _⟩ := rNm_inv h4
  have e6 := rBody_inv h6
  dsimp only at h5 e2 e3 e4 e6
  rw [rTxs] at h5
  split at h5
  · cases h5
  · rename_i h7
    cases h5
    have hk : k = ((u4.take k.toNat).length : Int) := by rw [List.length_take]; omega
    rw [e1, e2, e3, e4, snaT]
    simp only [slB, ← hk]
    have e7 : u4 = u4.take k.toNat ++ (strO (blkO bd) :: u6) := by rw [← e6, List.take_append_drop]
    conv => lhs; rw [e7]
    simp
theorem rEnd_inv {ts : List ByteArray} {p : Unit × List ByteArray} (h : rEnd ts = some p) : ts = [] := by
  rw [rEnd] at h
  split at h
  · assumption
  · cases h
theorem rDst_inv {path : ByteArray} {ts : List ByteArray} {px : Dst} (h : rDst path ts = some px) : ts = dstT px ∧ px.path = path := by
  simp only [rDst, Option.bind_eq_some_iff] at h
  obtain ⟨⟨og, u1⟩, h1, ⟨ow, u2⟩, h2, ⟨bd, u3⟩, h3, ⟨k, u4⟩, h4, ⟨sn, u5⟩, h5, ⟨_, u6⟩, h6, h⟩ := h
  cases h
  have e1 := rTx_inv h1
  have e2 := rOwn_inv h2
  have e3 := rBody_inv h3
  obtain ⟨e4, k0, _⟩ := rNm_inv h4
  obtain ⟨e5, hl⟩ := rRep_inv (fun _ _ _ => rSna_inv) h5
  have e6 := rEnd_inv h6
  dsimp only at e2 e3 e4 e5 e6 hl
  subst e6
  have hk : k = (sn.length : Int) := by omega
  refine ⟨?_, rfl⟩
  rw [e1, e2, e3, e4, e5, dstT]
  simp only [slB, ← hk, List.append_nil]
theorem rGra_inv {ts r : List ByteArray} {x : Gra} (h : rGra ts = some (x, r)) : ts = graT x ++ r := by
  simp only [rGra, Option.bind_eq_some_iff] at h
  obtain ⟨⟨a, u1⟩, h1, ⟨b, u2⟩, h2, ⟨c, u3⟩, h3, h⟩ := h
  cases h
  have e1 := rTx_inv h1
  have e2 := rTx_inv h2
  have e3 := (rNm_inv h3).1
  dsimp only at e2 e3
  rw [e1, e2, e3]; rfl
theorem rLin_inv {ts r : List ByteArray} {x : Lin} (h : rLin ts = some (x, r)) : ts = linT x ++ r := by
  simp only [rLin, Option.bind_eq_some_iff] at h
  obtain ⟨⟨a, u1⟩, h1, ⟨b, u2⟩, h2, ⟨c, u3⟩, h3, ⟨d, u4⟩, h4, h⟩ := h
  cases h
  have e1 := rTx_inv h1
  have e2 := (rNm_inv h2).1
  have e3 := rTx_inv h3
  have e4 := (rNm_inv h4).1
  dsimp only at e2 e3 e4
  rw [e1, e2, e3, e4]; rfl
theorem rHd_inv {name : ByteArray} {ts : List ByteArray} {px : Tnt} (h : rHd name ts = some px) : ts = headT px ∧ px.name = name ∧ px.sets = slB [] ∧ px.stages = slB [] ∧ px.grants = slB px.grants.xs ∧ px.log = slB px.log.xs := by
  simp only [rHd, Option.bind_eq_some_iff] at h
  obtain ⟨⟨q, u1⟩, h1, ⟨nx, u2⟩, h2, ⟨k, u3⟩, h3, ⟨gr, u4⟩, h4, ⟨m, u5⟩, h5, ⟨lg, u6⟩, h6, ⟨_, u7⟩, h7, h⟩ := h
  cases h
  have e1 := (rNm_inv h1).1
  have e2 := (rNm_inv h2).1
  obtain ⟨e3, k0, _⟩ := rNm_inv h3
  obtain ⟨e4, hl4⟩ := rRep_inv (fun _ _ _ => rGra_inv) h4
  obtain ⟨e5, m0, _⟩ := rNm_inv h5
  obtain ⟨e6, hl6⟩ := rRep_inv (fun _ _ _ => rLin_inv) h6
  have e7 := rEnd_inv h7
  dsimp only at e2 e3 e4 e5 e6 e7 hl4 hl6
  subst e7
  have hk : k = (gr.length : Int) := by omega
  have hm : m = (lg.length : Int) := by omega
  refine ⟨?_, rfl, rfl, rfl, rfl, rfl⟩
  rw [e1, e2, e3, e4, e5, e6, headT]
  simp only [slB, ← hk, ← hm, List.append_nil]
theorem pairs_inv : ∀ (l : List ByteArray), (pairs l).2 = true → ptext (pairs l).1 = l
  | [], _ => rfl
  | [s], h => by cases h
  | s :: v :: r, h => by
    show s :: v :: ptext (pairs r).1 = _
    rw [pairs_inv r h]
theorem readA_inv (ts : List ByteArray) (h : readB 1 ts = true) : recTexts (readA 1 ts) = ts := by
  rw [readB, if_pos rfl, Bool.and_eq_true] at h
  obtain ⟨h1, h2⟩ := h
  rw [recTexts, readA, if_pos rfl]
  simp only [↓reduceIte]
  match ts, h1, h2 with
  | [], h1, _ => simp [stN, stT] at h1
  | [a], h1, _ => simp [stN, stT] at h1
  | [a, b], h1, _ => simp [stN, stT] at h1
  | a :: b :: c :: l, h1, h2 =>
    simp only [stN, stT, Bool.true_and, Bool.and_eq_true, beq_iff_eq] at h1 h2 ⊢
    rw [num8_fV h1.1, num8_fV h1.2]
    simp only [h1.1, h1.2]
    simp [pairs_inv l h2]
theorem psA_inv (s : List UInt8) (h : psE s = 0) (hm : psM s = s.length) (hk : (psA s).kind = 1) : encB (psA s) = s := by
  rw [psM, if_pos h] at hm
  rw [psA, if_pos h] at hk ⊢
  cases s with
  | nil => cases h
  | cons b r =>
    have h9 := h
    rw [psE] at h
    (try simp only [] at h)
    split at h
    · cases h
    · rename_i q1
      split at h
      · cases h
      · rename_i q2
        split at h
        · cases h
        · rename_i q3
          split at h
          · cases h
          · rename_i q4
            split at h
            · cases h
            · rename_i q5
              have hb : b.toNat = 1 := by
                show b.toNat = 1
                have : (readA (b.toNat : Int) (rd (psT (b :: r))).2).kind = 1 := hk
                unfold readA at this
                split at this
                · omega
                · split at this
                  · cases this
                  · split at this
                    · cases this
                    · exact absurd this (by assumption)
              simp only [Decidable.not_not, not_or, Bool.not_eq_false] at q4 q5
              rw [show ((b.toNat : Nat) : Int) = 1 by omega] at q4 q5
              have hd : (((b :: r).headD 0).toNat : Int) = 1 := by show (b.toNat : Int) = 1; omega
              rw [hd]
              have hT := readA_inv _ q4.2
              obtain ⟨w1, w2⟩ := rd_back (psT (b :: r)) (rd (psT (b :: r))).2 (by rw [← q4.1])
              have hk1 : (readA 1 (rd (psT (b :: r))).2).kind = 1 := by rw [readA, if_pos rfl]
              rw [encB, if_pos q5, hk1, hT, w2]
              have hl : (psT (b :: r)).length = psN (b :: r) := by
                rw [psT, List.length_take, List.length_drop]; omega
              have hN : psN (b :: r) = val (r.take 2) := rfl
              have hr2 : (r.take 2).length = 2 := by rw [List.length_take]; simp only [List.length_cons] at q2; omega
              have hp := puts_val (r.take 2)
              rw [hr2, ← hN] at hp
              rw [hl, hp]
              have hT2 : psT (b :: r) = r.drop 2 := by
                rw [psT, List.drop_succ_cons, List.take_of_length_le]
                rw [List.length_drop]; simp only [List.length_cons] at hm; omega
              rw [hT2]
              show UInt8.ofNat 1 :: (r.take 2 ++ r.drop 2) = b :: r
              rw [List.take_append_drop]
              congr 1
              exact UInt8.toNat_inj.1 hb.symm
theorem part8_list (s : List UInt8) (h : s.length = 32) : sumO (sumOf s) = s := by
  rw [sumOf, if_pos h, sumO]
  have hp : ∀ k, k < 4 → puts (part8 s k) 8 = (s.drop (k * 8)).take 8 := fun k hk => by
    have := puts_val ((s.drop (k * 8)).take 8)
    rwa [show ((s.drop (k * 8)).take 8).length = 8 by rw [List.length_take, List.length_drop]; omega] at this
  simp only []
  rw [hp 0 (by decide), hp 1 (by decide), hp 2 (by decide), hp 3 (by decide)]
  have e : s = s.take 8 ++ ((s.drop 8).take 8 ++ ((s.drop 16).take 8 ++ (s.drop 24))) := by
    rw [show s.drop 24 = (s.drop 16).drop 8 by rw [List.drop_drop], List.take_append_drop, show s.drop 16 = (s.drop 8).drop 8 by rw [List.drop_drop], List.take_append_drop, List.take_append_drop]
  have e2 : (s.drop 24).take 8 = s.drop 24 := List.take_of_length_le (by rw [List.length_drop]; omega)
  simp only [Nat.zero_mul, List.drop_zero, Nat.one_mul, Nat.reduceMul, e2]
  conv => rhs; rw [e]
  simp only [List.append_assoc]
theorem rStg_inv {into : ByteArray} {ts : List ByteArray} {px : Stg} (h : rStg into ts = some px) (hk : px.beg.kind = 1) : ts = stgT px ∧ px.into = into := by
  simp only [rStg, Option.bind_eq_some_iff] at h
  obtain ⟨⟨rc, u1⟩, h1, ⟨bd, u2⟩, h2, ⟨a, u3⟩, h3, ⟨x, u4⟩, h4, ⟨su, u5⟩, h5, ⟨q, u6⟩, h6, ⟨_, u7⟩, h7, h⟩ := h
  cases h
  have e2 := rBody_inv h2
  have e3 := (rNm_inv h3).1
  have e4 := (rNm_inv h4).1
  obtain ⟨e6, q0, q1⟩ := rNm_inv h6
  have e7 := rEnd_inv h7
  dsimp only at hk e2 e3 e4 e6 e7 h5
  have e1 : ts = strO (encB rc) :: u1 := by
    cases ts with
    | nil => cases h1
    | cons s l =>
      rw [rRec] at h1
      split at h1
      · rename_i hc
        cases h1
        rw [psA_inv _ hc.1 hc.2 hk, strO_data]
      · cases h1
  have e5 : u4 = strO (sumO su) :: u5 := by
    cases u4 with
    | nil => cases h5
    | cons s l =>
      rw [rSum] at h5
      split at h5
      · rename_i hc
        cases h5
        unfold sumE at hc
        have : s.data.toList.length = 32 := by
          split at hc
          · cases hc
          · split at hc
            · cases hc
            · omega
        rw [part8_list _ this, strO_data]
      · cases h5
  refine ⟨?_, rfl⟩
  rw [e1, e2, e3, e4, e5, e6, e7, stgT]
  have hq : q = 0 ∨ q = 1 := by omega
  rcases hq with rfl | rfl <;> rfl
open Go.RowKit Go.Maps Go.Sort Go.Shelf
set_option linter.unusedVariables false
set_option linter.unusedSimpArgs false
theorem cutP_inv {s p : ByteArray} (h : (cutP s p).2 = true) : s = p ++ (cutP s p).1 := by
  cases hq : hasP s p with
  | false => rw [cutP, hq] at h; cases h
  | true =>
    rw [cutP, hq, if_pos rfl]
    simp only []
    rw [hasP, Bool.and_eq_true, beq_iff_eq, decide_eq_true_eq] at hq
    obtain ⟨h1, h2⟩ := hq
    rw [ByteArray.toList_eq, ByteArray.toList_eq] at h2
    refine ba_ext ?_
    rw [ba_app, ← h2]
    have e1 : (s.extract 0 p.size).data.toList = s.data.toList.take p.size := by simp [ByteArray.data_extract]
    have e2 : (s.extract p.size s.size).data.toList = s.data.toList.drop p.size := by
      simp [ByteArray.data_extract]
      exact List.take_of_length_le (by rw [List.length_drop]; show s.data.toList.length - _ ≤ _; rw [Array.length_toList]; exact Nat.le_refl _)
    rw [e1, e2, List.take_append_drop]
theorem flat_rd {l : List UInt8} (h : (rd l).1 = 0) : flat (rd l).2 = l := by
  obtain ⟨h1, h2⟩ := rd_back l (rd l).2 (by rw [← h])
  rwa [wB, if_pos h1] at h2
def fS (name : ByteArray) (s : Dst) : ByteArray × List ByteArray := (keyO [kS, name, s.path], dstT s)
def fG (name : ByteArray) (s : Stg) : ByteArray × List ByteArray := (keyO [kG, name, s.into], stgT s)
theorem rSet_inv {p : ByteArray} {l : List UInt8} {s : Dst} (h : rSet p l = some s) : flat (dstT s) = l ∧ s.path = p := by
  rw [rSet] at h
  split at h
  · rename_i h0
    obtain ⟨h1, h2⟩ := rDst_inv h
    exact ⟨by rw [← h1]; exact flat_rd h0, h2⟩
  · cases h
theorem rStage_inv {p : ByteArray} {l : List UInt8} {s : Stg} (h : rStage p l = some s) (hk : s.beg.kind = 1) : flat (stgT s) = l ∧ s.into = p := by
  rw [rStage] at h
  split at h
  · rename_i h0
    obtain ⟨h1, h2⟩ := rStg_inv h hk
    exact ⟨by rw [← h1]; exact flat_rd h0, h2⟩
  · cases h
theorem rFold_inv (name : ByteArray) : ∀ (l : List (ByteArray × List UInt8)) (q nx : Int) (s0 : List Dst) (gr : List Gra) (g0 : List Stg) (lg : List Lin) (t : Tnt), rFold name ⟨name, q, nx, slB s0, slB gr, slB g0, slB lg⟩ l = some t →
    ∃ ss gs, t = ⟨name, q, nx, slB (s0 ++ ss), slB gr, slB (g0 ++ gs), slB lg⟩ ∧ (g0 ≠ [] → ss = []) ∧ ((∀ x ∈ gs, x.beg.kind = 1) → l = (ss.map (fS name) ++ gs.map (fG name)).map octD)
  | [], q, nx, s0, gr, g0, lg, t, h => by
    cases h
    exact ⟨[], [], by simp, fun _ => rfl, fun _ => rfl⟩
  | x :: l, q, nx, s0, gr, g0, lg, t, h => by
    rw [rFold, Option.bind_eq_some_iff] at h
    obtain ⟨t1, h1, h⟩ := h
    rw [rStep, rStp] at h1
    cases hc : (cutP x.1 (pS name)).2 && g0.isEmpty with
    | true =>
      rw [show ((cutP x.1 (pS name)).2 && (slB g0).xs.isEmpty) = true from hc, cond_true, Option.bind_eq_some_iff] at h1
      obtain ⟨s, h2, h1⟩ := h1
      cases h1
      obtain ⟨e1, e2⟩ := rSet_inv h2
      rw [Bool.and_eq_true] at hc
      have hg0 : g0 = [] := List.isEmpty_iff.1 hc.2
      obtain ⟨ss, gs, rfl, _, k3⟩ := rFold_inv name l q nx (s0 ++ [s]) gr g0 lg t h
      refine ⟨s :: ss, gs, by simp, fun hn => absurd hg0 hn, fun hk => ?_⟩
      rw [List.map_cons, List.cons_append, List.map_cons, ← k3 hk]
      congr 1
      obtain ⟨xk, xd⟩ := x
      rw [fS, octD]
      simp only []
      rw [e1, key_S, e2, ← cutP_inv hc.1]
    | false =>
      rw [show ((cutP x.1 (pS name)).2 && (slB g0).xs.isEmpty) = false from hc, cond_false] at h1
      cases hd : (cutP x.1 (pG name)).2 with
      | false => rw [hd, cond_false] at h1; cases h1
      | true =>
        rw [hd, cond_true, Option.bind_eq_some_iff] at h1
        obtain ⟨s, h2, h1⟩ := h1
        cases h1
        obtain ⟨ss, gs, rfl, k2, k3⟩ := rFold_inv name l q nx s0 gr (g0 ++ [s]) lg t h
        have hss : ss = [] := k2 (by simp)
        subst hss
        refine ⟨[], s :: gs, by simp, fun _ => rfl, fun hk => ?_⟩
        obtain ⟨e1, e2⟩ := rStage_inv h2 (hk s (by simp))
        rw [List.map_nil, List.nil_append, List.map_cons, List.map_cons]
        have k4 := k3 (fun y hy => hk y (by simp [hy]))
        rw [List.map_nil, List.nil_append] at k4
        rw [← k4]
        congr 1
        obtain ⟨xk, xd⟩ := x
        rw [fG, octD]
        simp only []
        rw [e1, key_G, e2, ← cutP_inv hd]
theorem rTen_inv {name : ByteArray} {xs : List (ByteArray × List UInt8)} {t : Tnt} (h : rTen name xs = some t) : t.name = name ∧ tenB t = true ∧ (objT t).map octD = xs := by
  cases xs with
  | nil => cases h
  | cons x l =>
    rw [rTen] at h
    split at h
    · rename_i hk
      rw [Option.bind_eq_some_iff] at h
      obtain ⟨t0, h1, h⟩ := h
      rw [Option.bind_eq_some_iff] at h
      obtain ⟨t1, h2, h⟩ := h
      split at h
      · rename_i hB
        cases h
        rw [rHead] at h1
        split at h1
        · rename_i h0
          obtain ⟨e1, e2, e3, e4, e5, e6⟩ := rHd_inv h1
          have hf := flat_rd h0
          rw [e1] at hf
          obtain ⟨nm, q, nx, st0, gr, sg0, lg⟩ := t0
          simp only [] at e2 e3 e4 e5 e6
          subst e2 e3 e4
          rw [e5, e6] at h2
          obtain ⟨ss, gs, rfl, _, k3⟩ := rFold_inv nm l q nx [] gr.xs [] lg.xs t h2
          have hb := hB
          simp only [tenB, stsB, Bool.and_eq_true, List.all_eq_true] at hb
          have hst := hb.2.2.2.2.2.1.2.1
          have hk1 : ∀ y ∈ gs, y.beg.kind = 1 := fun y hy => by
            have := hst y (by simpa [slB] using hy)
            simp only [stB, Bool.and_eq_true, beq_iff_eq] at this
            exact this.2.2.1
          refine ⟨rfl, hB, ?_⟩
          rw [k3 hk1, objT, List.map_cons]
          have ho : octD (keyO [kT, nm], headT ⟨nm, q, nx, slB ([] ++ ss), slB gr.xs, slB ([] ++ gs), slB lg.xs⟩) = x := by
            obtain ⟨xk, xd⟩ := x
            rw [octD]
            simp only [] at hk hf ⊢
            rw [key_T, ← hk, ← hf]; rfl
          rw [ho]; rfl
        · cases h1
      · cases h
    · cases h
theorem dstT_bare (x : Dst) : dstT x.bare = dstT x := by
  rw [dstT, dstT]
  have : x.bare.snaps.xs.flatMap snaT = x.snaps.xs.flatMap snaT := by
    show (x.snaps.xs.map Sna.bare).flatMap snaT = _
    rw [List.flatMap_map]; rfl
  rw [this, show x.bare.snaps.xs.length = x.snaps.xs.length from List.length_map ..]; rfl
theorem stgT_bare (x : Stg) (h : x.beg.on = x.beg.own.length) (hk : x.beg.kind = 1) : stgT x.bare = stgT x := by
  have : encB x.beg.bare = encB x.beg := by
    rw [encB, encB, recE_of (y := x.beg) rfl h (.inl hk)]; rfl
  rw [stgT, stgT, show x.bare.beg = x.beg.bare from rfl, this]; rfl
theorem objT_bare (t : Tnt) (h : ∀ x ∈ t.stages.xs, x.beg.on = x.beg.own.length ∧ x.beg.kind = 1) : objT t.bare = objT t := by
  rw [objT, objT]
  have e1 : t.bare.sets.xs.map (fun s => (keyO [kS, t.bare.name, s.path], dstT s)) = t.sets.xs.map (fun s => (keyO [kS, t.name, s.path], dstT s)) := by
    show (t.sets.xs.map Dst.bare).map _ = _
    rw [List.map_map]
    refine List.map_congr_left fun x _ => ?_
    show (_, dstT x.bare) = _
    rw [dstT_bare]; rfl
  have e2 : t.bare.stages.xs.map (fun s => (keyO [kG, t.bare.name, s.into], stgT s)) = t.stages.xs.map (fun s => (keyO [kG, t.name, s.into], stgT s)) := by
    show (t.stages.xs.map Stg.bare).map _ = _
    rw [List.map_map]
    refine List.map_congr_left fun x hx => ?_
    show (_, stgT x.bare) = _
    rw [stgT_bare x (h x hx).1 (h x hx).2]; rfl
  rw [e1, e2]; rfl
open Go.RowKit Go.Maps Go.Sort Go.Shelf
set_option linter.unusedVariables false
set_option linter.unusedSimpArgs false
instance : DecidableEq Gra := fun a b => decidable_of_iff (a.user = b.user ∧ a.path = b.path ∧ a.perms = b.perms) (by cases a; cases b; simp)
instance : DecidableEq Lin := fun a b => decidable_of_iff (a.user = b.user ∧ a.kind = b.kind ∧ a.path = b.path ∧ a.err = b.err) (by cases a; cases b; simp)
theorem takeG_succ {α : Type} {xs ys : List α} {k : Nat} (h1 : k < xs.length) (h2 : k < ys.length) (h : xs.take k = ys.take k) (he : xs[k] = ys[k]) : xs.take (k + 1) = ys.take (k + 1) := by
  rw [List.take_succ_eq_append_getElem h1, List.take_succ_eq_append_getElem h2, h, he]
theorem neG_at {α : Type} {xs ys : List α} {k : Nat} (h1 : k < xs.length) (h2 : k < ys.length) (hn : xs[k] ≠ ys[k]) : xs ≠ ys := fun e => by
  subst e
  exact hn rfl
set_option maxRecDepth 100000 in
set_option maxHeartbeats 8000000 in
theorem rsamegr_any (w : World) (s t : Sl Gra) (hs : Sl.At w 0 w.heap.size Gra.cells (fun _ => True) s) (ht : Sl.At w 0 w.heap.size Gra.cells (fun _ => True) t) :
    Calls Tryz.prog 51 #[s.val, t.val] w fun e w' => e = .returned (.bool (decide (s.xs = t.xs))) ∧ Ext w w' := by
  have HR := Lib.hid hs.rd
  have HS := Lib.hid ht.rd
  have hN : s.n ≤ 9223372036854775807 := Nat.le_trans (Nat.le_trans hs.le hs.cap) (by decide)
  have hM : t.n ≤ 9223372036854775807 := Nat.le_trans (Nat.le_trans ht.le ht.cap) (by decide)
  have Hn := Lib.hid hs.len
  have Hm := Lib.hid ht.len
  clear hs ht
  obtain ⟨A, n, c, xs⟩ := s
  obtain ⟨B, m, d, ys⟩ := t
  dsimp only at HR HS hN hM Hn Hm ⊢
  simp only [Sl.val]
  by_cases hne : n = m
  · subst hne
    go_enter Tryz.func51, Tryz.ntmps51
    go_wp2_with fail
    go_loopw [5] (fun i wr => ∃ k : Nat, k ≤ n ∧ i = .int .i64 k ∧ Hid (xs.take k = ys.take k) ∧ Ext w wr) (fun i _ => n - (intOf i).toNat)
    case atStart => exact ⟨0, Nat.zero_le _, rfl, by rw [Hid]; rfl, Ext.refl _⟩
    case round =>
      obtain ⟨k, hk, rfl, HK, e1⟩ := hrel
      by_cases hlt : k < n
      · have l1 : k < xs.length := by rw [← Hn.out]; exact hlt
        have l2 : k < ys.length := by rw [← Hm.out]; exact hlt
        obtain ⟨b1, o1, rfl, _, _, G1⟩ := rd_flat (size := 3) (fun _ => rfl) (by omega) (HR.out.ext e1 (Nat.le_refl _)) l1
        obtain ⟨b2, o2, rfl, _, _, G2⟩ := rd_flat (size := 3) (fun _ => rfl) (by omega) (HS.out.ext e1 (Nat.le_refl _)) l2
        have HT := Lib.hid (fun he => takeG_succ l1 l2 HK.out he)
        have HN := Lib.hid (neG_at l1 l2)
        have f0 := G1 0 _ rfl
        have g0 := G2 0 _ rfl
        have f1 := G1 1 _ rfl
        have g1 := G2 1 _ rfl
        have f2 := G1 2 _ rfl
        have g2 := G2 2 _ rfl
        generalize xs[k] = x at *
        generalize ys[k] = y at *
        obtain ⟨x0, x1, x2⟩ := x
        obtain ⟨y0, y1, y2⟩ := y
        (try simp only [Nat.add_zero] at f0 g0)
        clear G1 G2
        by_cases h0 : x0 = y0
        · subst h0
          by_cases h1 : x1 = y1
          · subst h1
            by_cases h2 : x2 = y2
            · subst h2
              have e0 := toList_self x0
              have e1 := toList_self x1
              have HT2 := Lib.hid (HT.out rfl)
              clear HT HN
              go_wp2_with fail
              refine wp_region_held_drew (S := fun w' => w' = wr.drew) (by kernel_rfl) rfl (fun hHeld => ?_)
              refine tW 0 9 ?_
              refine wpAnyH_done (by kernel_rfl) ?_ _
              go_wp2_with fail
              go_roundw
              case rel => exact ⟨k + 1, by omega, by go_num, HT2, blo⟩
              case measure => simp [intOf]; omega
            · have HF := Lib.hid (HN.out (by simp [h2]))
              have e0 := toList_self x0
              have e1 := toList_self x1
              have c2 : (x2 == y2) = false := by simp [h2]
              clear h2 HT HN
              go_wp2_with fail
              refine wp_region_held_drew (S := fun w' => w' = wr.drew) (by kernel_rfl) rfl (fun hHeld => ?_)
              refine tW 0 9 ?_
              refine wpAnyH_done (by kernel_rfl) ?_ _
              go_wp2_with fail
              go_ret
              exact ⟨by rw [decide_eq_false HF.out]; rfl, blo⟩
          · have HF := Lib.hid (HN.out (by simp [h1]))
            have e0 := toList_self x0
            have c1 := toList_ne h1
            clear h1 HT HN
            go_wp2_with fail
            refine wp_region_held_drew (S := fun w' => w' = wr.drew) (by kernel_rfl) rfl (fun hHeld => ?_)
            refine tW 0 9 ?_
            refine wpAnyH_done (by kernel_rfl) ?_ _
            go_wp2_with fail
            go_ret
            exact ⟨by rw [decide_eq_false HF.out]; rfl, blo⟩
        · have HF := Lib.hid (HN.out (by simp [h0]))
          have c0 := toList_ne h0
          clear h0 HT HN
          go_wp2_with fail
          refine wp_region_held_drew (S := fun w' => w' = wr.drew) (by kernel_rfl) rfl (fun hHeld => ?_)
          refine tW 0 9 ?_
          refine wpAnyH_done (by kernel_rfl) ?_ _
          go_wp2_with fail
          go_ret
          exact ⟨by rw [decide_eq_false HF.out]; rfl, blo⟩
      · obtain rfl : k = n := by omega
        have h1 := HK.out
        rw [List.take_of_length_le (by rw [← Hn.out]; exact Nat.le_refl _), List.take_of_length_le (by rw [← Hm.out]; exact Nat.le_refl _)] at h1
        have HF := Lib.hid h1
        clear h1
        go_wp2_with fail
        go_ret
        exact ⟨by rw [decide_eq_true HF.out]; rfl, e1⟩
  · have HF := Lib.hid (show xs ≠ ys from fun e => hne (by rw [Hn.out, Hm.out, e]))
    have hb : ((n : Int) == (m : Int)) = false := by rw [beq_eq_false_iff_ne]; omega
    go_enter Tryz.func51, Tryz.ntmps51
    go_wp2_with fail
    go_ret
    exact ⟨by rw [decide_eq_false HF.out]; rfl, Ext.refl _⟩
set_option maxRecDepth 100000 in
set_option maxHeartbeats 8000000 in
theorem rsamelog_any (w : World) (s t : Sl Lin) (hs : Sl.At w 0 w.heap.size Lin.cells (fun _ => True) s) (ht : Sl.At w 0 w.heap.size Lin.cells (fun _ => True) t) :
    Calls Tryz.prog 52 #[s.val, t.val] w fun e w' => e = .returned (.bool (decide (s.xs = t.xs))) ∧ Ext w w' := by
  have HR := Lib.hid hs.rd
  have HS := Lib.hid ht.rd
  have hN : s.n ≤ 9223372036854775807 := Nat.le_trans (Nat.le_trans hs.le hs.cap) (by decide)
  have hM : t.n ≤ 9223372036854775807 := Nat.le_trans (Nat.le_trans ht.le ht.cap) (by decide)
  have Hn := Lib.hid hs.len
  have Hm := Lib.hid ht.len
  clear hs ht
  obtain ⟨A, n, c, xs⟩ := s
  obtain ⟨B, m, d, ys⟩ := t
  dsimp only at HR HS hN hM Hn Hm ⊢
  simp only [Sl.val]
  by_cases hne : n = m
  · subst hne
    go_enter Tryz.func52, Tryz.ntmps52
    go_wp2_with fail
    go_loopw [5] (fun i wr => ∃ k : Nat, k ≤ n ∧ i = .int .i64 k ∧ Hid (xs.take k = ys.take k) ∧ Ext w wr) (fun i _ => n - (intOf i).toNat)
    case atStart => exact ⟨0, Nat.zero_le _, rfl, by rw [Hid]; rfl, Ext.refl _⟩
    case round =>
      obtain ⟨k, hk, rfl, HK, e1⟩ := hrel
      by_cases hlt : k < n
      · have l1 : k < xs.length := by rw [← Hn.out]; exact hlt
        have l2 : k < ys.length := by rw [← Hm.out]; exact hlt
        obtain ⟨b1, o1, rfl, _, _, G1⟩ := rd_flat (size := 4) (fun _ => rfl) (by omega) (HR.out.ext e1 (Nat.le_refl _)) l1
        obtain ⟨b2, o2, rfl, _, _, G2⟩ := rd_flat (size := 4) (fun _ => rfl) (by omega) (HS.out.ext e1 (Nat.le_refl _)) l2
        have HT := Lib.hid (fun he => takeG_succ l1 l2 HK.out he)
        have HN := Lib.hid (neG_at l1 l2)
        have f0 := G1 0 _ rfl
        have g0 := G2 0 _ rfl
        have f1 := G1 1 _ rfl
        have g1 := G2 1 _ rfl
        have f2 := G1 2 _ rfl
        have g2 := G2 2 _ rfl
        have f3 := G1 3 _ rfl
        have g3 := G2 3 _ rfl
        generalize xs[k] = x at *
        generalize ys[k] = y at *
        obtain ⟨x0, x1, x2, x3⟩ := x
        obtain ⟨y0, y1, y2, y3⟩ := y
        (try simp only [Nat.add_zero] at f0 g0)
        clear G1 G2
        by_cases h0 : x0 = y0
        · subst h0
          by_cases h1 : x1 = y1
          · subst h1
            by_cases h2 : x2 = y2
            · subst h2
              by_cases h3 : x3 = y3
              · subst h3
                have e0 := toList_self x0
                have e2 := toList_self x2
                have HT2 := Lib.hid (HT.out rfl)
                clear HT HN
                go_wp2_with fail
                refine wp_region_held_drew (S := fun w' => w' = wr.drew) (by kernel_rfl) rfl (fun hHeld => ?_)
                refine tW 0 9 ?_
                refine wpAnyH_done (by kernel_rfl) ?_ _
                go_wp2_with fail
                go_roundw
                case rel => exact ⟨k + 1, by omega, by go_num, HT2, blo⟩
                case measure => simp [intOf]; omega
              · have HF := Lib.hid (HN.out (by simp [h3]))
                have e0 := toList_self x0
                have e2 := toList_self x2
                have c3 : (x3 == y3) = false := by simp [h3]
                clear h3 HT HN
                go_wp2_with fail
                refine wp_region_held_drew (S := fun w' => w' = wr.drew) (by kernel_rfl) rfl (fun hHeld => ?_)
                refine tW 0 9 ?_
                refine wpAnyH_done (by kernel_rfl) ?_ _
                go_wp2_with fail
                go_ret
                exact ⟨by rw [decide_eq_false HF.out]; rfl, blo⟩
            · have HF := Lib.hid (HN.out (by simp [h2]))
              have e0 := toList_self x0
              have c2 := toList_ne h2
              clear h2 HT HN
              go_wp2_with fail
              refine wp_region_held_drew (S := fun w' => w' = wr.drew) (by kernel_rfl) rfl (fun hHeld => ?_)
              refine tW 0 9 ?_
              refine wpAnyH_done (by kernel_rfl) ?_ _
              go_wp2_with fail
              go_ret
              exact ⟨by rw [decide_eq_false HF.out]; rfl, blo⟩
          · have HF := Lib.hid (HN.out (by simp [h1]))
            have e0 := toList_self x0
            have c1 : (x1 == y1) = false := by simp [h1]
            clear h1 HT HN
            go_wp2_with fail
            refine wp_region_held_drew (S := fun w' => w' = wr.drew) (by kernel_rfl) rfl (fun hHeld => ?_)
            refine tW 0 9 ?_
            refine wpAnyH_done (by kernel_rfl) ?_ _
            go_wp2_with fail
            go_ret
            exact ⟨by rw [decide_eq_false HF.out]; rfl, blo⟩
        · have HF := Lib.hid (HN.out (by simp [h0]))
          have c0 := toList_ne h0
          clear h0 HT HN
          go_wp2_with fail
          refine wp_region_held_drew (S := fun w' => w' = wr.drew) (by kernel_rfl) rfl (fun hHeld => ?_)
          refine tW 0 9 ?_
          refine wpAnyH_done (by kernel_rfl) ?_ _
          go_wp2_with fail
          go_ret
          exact ⟨by rw [decide_eq_false HF.out]; rfl, blo⟩
      · obtain rfl : k = n := by omega
        have h1 := HK.out
        rw [List.take_of_length_le (by rw [← Hn.out]; exact Nat.le_refl _), List.take_of_length_le (by rw [← Hm.out]; exact Nat.le_refl _)] at h1
        have HF := Lib.hid h1
        clear h1
        go_wp2_with fail
        go_ret
        exact ⟨by rw [decide_eq_true HF.out]; rfl, e1⟩
  · have HF := Lib.hid (show xs ≠ ys from fun e => hne (by rw [Hn.out, Hm.out, e]))
    have hb : ((n : Int) == (m : Int)) = false := by rw [beq_eq_false_iff_ne]; omega
    go_enter Tryz.func52, Tryz.ntmps52
    go_wp2_with fail
    go_ret
    exact ⟨by rw [decide_eq_false HF.out]; rfl, Ext.refl _⟩
end Go.Proofs.YtckaneapjpiocaaGreatDoor
