/- the texts D40, D41 of this proof, one behind the other -/
import Derived.Test.YtfjfjjcdlgdbcaaDoorG18
namespace Go.Proofs.YtfjfjjcdlgdbcaaDoor
open Go.RowKit
set_option linter.unusedSimpArgs false
set_option linter.unusedVariables false

namespace Db
theorem half_dig : ∀ n : Fin 16, halfN (dig n.val) = n.val := by decide
theorem unhexR_hex : ∀ xs : List UInt8, unhexR (hexL xs) = some xs
  | [] => rfl
  | x :: xs => by
    have hx := x.toNat_lt
    have e : hexL (x :: xs) = dig (x.toNat / 16) :: dig (x.toNat % 16) :: hexL xs := rfl
    have h1 := half_dig ⟨x.toNat / 16, by omega⟩
    have h2 := half_dig ⟨x.toNat % 16, by omega⟩
    simp only at h1 h2
    rw [e, unhexR, h1, h2, if_pos ⟨by omega, by omega⟩, unhexR_hex xs]
    simp only [Option.map_some, Option.some.injEq, List.cons.injEq, and_true]
    apply UInt8.toNat_inj.1
    simp; omega
theorem unhexV_hex (xs : List UInt8) : unhexV (hexL xs) = (xs, true) := by
  unfold unhexV
  rw [unhexR_hex, hexL_length]
  simp
theorem dig_ok : ∀ n : Fin 16, 48 ≤ (dig n.val).toNat ∧ (dig n.val).toNat ≤ 102 := by decide
theorem hex_ok (xs : List UInt8) : ∀ b ∈ hexL xs, 48 ≤ b.toNat ∧ b.toNat ≤ 102 := by
  intro b hb
  unfold hexL at hb
  obtain ⟨l, hl, hb⟩ := List.mem_flatten.1 hb
  obtain ⟨x, _, rfl⟩ := List.mem_map.1 hl
  have hx := x.toNat_lt
  simp only [dig2, List.mem_cons, List.not_mem_nil, or_false] at hb
  rcases hb with rfl | rfl
  · exact dig_ok ⟨x.toNat / 16, by omega⟩
  · exact dig_ok ⟨x.toNat % 16, by omega⟩
theorem hex_point (xs : List UInt8) : hexL xs ≠ [46] := by
  intro e
  have := hex_ok xs 46 (by rw [e]; simp)
  simp at this
theorem hex_nil (xs : List UInt8) : hexL xs = [] ↔ xs = [] := by
  have := hexL_length xs
  constructor
  · intro e; rw [e] at this; simp at this; exact List.eq_nil_of_length_eq_zero (by omega)
  · rintro rfl; rfl
theorem undig_hex (xs : List UInt8) (h : xs ≠ []) : undigL (hexL xs) = (xs, true) := by
  unfold undigL
  rw [if_neg (hex_point xs), unhexV_hex]
  simp [List.length_pos_iff, h]
theorem undig_dot (xs : List UInt8) : undigL (dotL (hexL xs)) = (xs, true) := by
  unfold dotL
  split
  · rename_i h
    rw [(hex_nil xs).1 h]
    rfl
  · rename_i h
    exact undig_hex xs (fun e => h ((hex_nil xs).2 e))
theorem splitL_app (c : UInt8) (r : List UInt8) : ∀ x : List UInt8, (∀ b ∈ x, b ≠ c) → splitL c (x ++ c :: r) = x :: splitL c r
  | [], _ => by rw [List.nil_append, splitL, if_pos rfl]
  | b :: x, h => by
    rw [List.cons_append, splitL, if_neg (h b (by simp)), Db.splitL_app c r x (fun b' hb' => h b' (by simp [hb']))]
    rfl
theorem splitL_none (c : UInt8) : ∀ x : List UInt8, (∀ b ∈ x, b ≠ c) → splitL c x = [x]
  | [], _ => rfl
  | b :: x, h => by
    rw [splitL, if_neg (h b (by simp)), splitL_none c x (fun b' hb' => h b' (by simp [hb']))]
    rfl
theorem splitL_tail (c : UInt8) : ∀ (xs : List (List UInt8)) (x : List UInt8), (∀ y ∈ x :: xs, ∀ b ∈ y, b ≠ c) → splitL c (x ++ (xs.map fun y => c :: y).flatten) = x :: xs
  | [], x, h => by
    rw [List.map_nil, List.flatten_nil, List.append_nil]
    exact splitL_none c x (h x (by simp))
  | y :: xs, x, h => by
    rw [List.map_cons, List.flatten_cons, List.cons_append, Db.splitL_app c _ x (h x (by simp)), splitL_tail c xs y (fun z hz => h z (List.mem_cons_of_mem _ hz))]
theorem splitL_join (c : UInt8) (x : List UInt8) (xs : List (List UInt8)) (h : ∀ y ∈ x :: xs, ∀ b ∈ y, b ≠ c) : splitL c (Lib.join (x :: xs) [c]) = x :: xs := by
  rw [Lib.join_cons]
  exact splitL_tail c xs x h
theorem halfN_dig (c : UInt8) (h : halfN c < 16) : dig (halfN c) = c := by
  have hf : (List.range 16).findIdx (fun i => decide (dig i = c)) < (List.range 16).length := by
    rw [List.length_range]; exact h
  have := List.findIdx_getElem (w := hf)
  simp only [List.getElem_range, decide_eq_true_eq] at this
  exact this
theorem hex_unhexR : ∀ (s bs : List UInt8), s.length % 2 = 0 → unhexR s = some bs → hexL bs = s
  | [], bs, _, h => by
    obtain rfl := Option.some.inj h
    rfl
  | [a], bs, h, _ => by simp at h
  | a :: b :: r, bs, hl, h => by
    rw [unhexR] at h
    split at h
    · rename_i hab
      obtain ⟨o, ho, rfl⟩ := Option.map_eq_some_iff.1 h
      have ih := hex_unhexR r o (by simp only [List.length_cons] at hl; omega) ho
      have e : hexL (UInt8.ofNat (16 * halfN a + halfN b) :: o) = dig2 (UInt8.ofNat (16 * halfN a + halfN b)) ++ hexL o := rfl
      have e1 : (UInt8.ofNat (16 * halfN a + halfN b)).toNat = 16 * halfN a + halfN b := by simp; omega
      rw [e, ih, dig2, e1, show (16 * halfN a + halfN b) / 16 = halfN a by omega, show (16 * halfN a + halfN b) % 16 = halfN b by omega, halfN_dig a hab.1, halfN_dig b hab.2]
      rfl
    · cases h
theorem hex_unhexV (s : List UInt8) (h : (unhexV s).2 = true) : hexL (unhexV s).1 = s := by
  unfold unhexV at h ⊢
  cases hu : unhexR s with
  | none => rw [hu] at h; cases h
  | some bs =>
    rw [hu] at h
    exact hex_unhexR s bs (of_decide_eq_true h) hu
theorem hex_undig (s : List UInt8) (h : (undigL s).2 = true) (hn : s ≠ [46]) : hexL (undigL s).1 = s ∧ (undigL s).1 ≠ [] := by
  unfold undigL at h ⊢
  rw [if_neg hn] at h ⊢
  simp only [Bool.and_eq_true, decide_eq_true_eq] at h
  refine ⟨hex_unhexV s h.1, fun e => ?_⟩
  simp only at e
  rw [e] at h
  simp at h
theorem dot_undig (s : List UInt8) (h : (undigL s).2 = true) : dotL (hexL (undigL s).1) = s := by
  by_cases hn : s = [46]
  · subst hn; rfl
  · obtain ⟨h1, h2⟩ := hex_undig s h hn
    rw [h1, dotL, if_neg]
    rintro rfl
    have := hexL_length (undigL []).1
    rw [h1] at this
    simp only [List.length_nil] at this
    exact h2 (List.eq_nil_of_length_eq_zero (by omega))
theorem undig_len (s : List UInt8) (n : Nat) (hn : 0 < n) (h : (undigL s).2 = true ∧ (undigL s).1.length = n) : hexL (undigL s).1 = s := by
  refine (hex_undig s h.1 ?_).1
  rintro rfl
  have : (undigL [46]).1 = [] := rfl
  rw [this] at h
  simp only [List.length_nil] at h
  omega
theorem join_cons2 (p q : List UInt8) (ps : List (List UInt8)) (c : UInt8) : Lib.join (p :: q :: ps) [c] = p ++ c :: Lib.join (q :: ps) [c] := by
  rw [Lib.join_cons, Lib.join_cons]
  simp [Lib.joinTail]
theorem join_split (c : UInt8) : ∀ s : List UInt8, Lib.join (splitL c s) [c] = s
  | [] => rfl
  | b :: s => by
    have ih := join_split c s
    rw [splitL]
    split
    · rename_i h
      subst h
      cases hs : splitL b s with
      | nil => exact absurd hs (splitL_ne b s)
      | cons p ps =>
        rw [hs] at ih
        rw [join_cons2, ih]
        rfl
    · cases hs : splitL c s with
      | nil => exact absurd hs (splitL_ne c s)
      | cons p ps =>
        rw [hs, Lib.join_cons] at ih
        rw [consHead, Lib.join_cons, List.cons_append, ih]
end Db

theorem valW_inj : ∀ (k : Nat) (xs ys : List UInt8), xs.length = k → ys.length = k → valW xs = valW ys → xs = ys
  | 0, xs, ys, hx, hy, _ => by rw [List.eq_nil_of_length_eq_zero hx, List.eq_nil_of_length_eq_zero hy]
  | k + 1, xs, ys, hx, hy, h => by
    have nx : xs ≠ [] := by intro e; rw [e] at hx; cases hx
    have ny : ys ≠ [] := by intro e; rw [e] at hy; cases hy
    have dx := List.dropLast_concat_getLast nx
    have dy := List.dropLast_concat_getLast ny
    rw [← dx, ← dy, valW_snoc, valW_snoc] at h
    have b1 := (xs.getLast nx).toNat_lt
    have b2 := (ys.getLast ny).toNat_lt
    have h1 : valW xs.dropLast = valW ys.dropLast := by omega
    have h2 : xs.getLast nx = ys.getLast ny := UInt8.toNat_inj.1 (by omega)
    have h3 := valW_inj k xs.dropLast ys.dropLast (by rw [List.length_dropLast]; omega) (by rw [List.length_dropLast]; omega) h1
    rw [← dx, ← dy, h2, h3]
theorem beL_valW (xs : List UInt8) (h : xs.length = 32) : beL (valW xs) 32 = xs := by
  have h1 : valW xs < top256 := valW_lt 32 xs h
  exact valW_inj 32 _ _ (beL_length _ _) h (valW_be _ h1)
/-- the lines of an account -/
def entRows (e : EntP) : List (List UInt8) := Lib.join (headSS e) [32] :: e.slots.map fun h => Lib.join (slotSS h) [32]
theorem ent_rows (e : EntP) : entL e = ((entRows e).map fun l => l ++ [10]).flatten := by
  unfold entL entRows slotsL lineL
  simp [List.map_map, Function.comp_def]
theorem dump_rows (es : List EntP) : dumpL es = ((es.flatMap entRows).map fun l => l ++ [10]).flatten := by
  unfold dumpL
  induction es with
  | nil => rfl
  | cons e es ih => rw [List.map_cons, List.flatten_cons, ih, List.flatMap_cons, List.map_append, List.flatten_append, ent_rows]
theorem word_clean (e : EntP) (w : List UInt8) (h : w ∈ headSS e) : ∀ b ∈ w, b ≠ 32 ∧ b ≠ 10 := by
  have ok : ∀ b : UInt8, 46 ≤ b.toNat → b ≠ 32 ∧ b ≠ 10 := fun b hb => ⟨fun e => by rw [e] at hb; simp at hb, fun e => by rw [e] at hb; simp at hb⟩
  have dg : ∀ n, ∀ b ∈ Lib.decDigits n, b ≠ 32 ∧ b ≠ 10 := fun n b hb => ok b (by have := of_decide_eq_true (decDigits_digit n b hb); omega)
  simp only [headSS, List.mem_cons, List.not_mem_nil, or_false] at h
  rcases h with rfl | rfl | rfl | rfl | rfl
  · intro b hb
    revert b
    decide
  · intro b hb
    exact ok b (by have := Db.hex_ok _ b hb; omega)
  · exact dg _
  · exact dg _
  · intro b hb
    unfold dotL at hb
    split at hb
    · obtain rfl : b = 46 := by simpa using hb
      decide
    · exact ok b (by have := Db.hex_ok _ b hb; omega)
theorem slot_clean (h : List UInt8 × List UInt8) (w : List UInt8) (hw : w ∈ slotSS h) : ∀ b ∈ w, b ≠ 32 ∧ b ≠ 10 := by
  have ok : ∀ b : UInt8, 46 ≤ b.toNat → b ≠ 32 ∧ b ≠ 10 := fun b hb => ⟨fun e => by rw [e] at hb; simp at hb, fun e => by rw [e] at hb; simp at hb⟩
  simp only [slotSS, List.mem_cons, List.not_mem_nil, or_false] at hw
  rcases hw with rfl | rfl | rfl
  · intro b hb
    revert b
    decide
  · intro b hb
    exact ok b (by have := Db.hex_ok _ b hb; omega)
  · intro b hb
    exact ok b (by have := Db.hex_ok _ b hb; omega)
theorem join_clean (ss : List (List UInt8)) (h : ∀ w ∈ ss, ∀ b ∈ w, b ≠ 32 ∧ b ≠ 10) : ∀ b ∈ Lib.join ss [32], b ≠ 10 := by
  cases ss with
  | nil => intro b hb; cases hb
  | cons x xs =>
    rw [Lib.join_cons]
    intro b hb
    rcases List.mem_append.1 hb with hb | hb
    · exact (h x (by simp) b hb).2
    · have key : ∀ (ys : List (List UInt8)), (∀ w ∈ ys, ∀ b ∈ w, b ≠ 32 ∧ b ≠ 10) → ∀ b ∈ (Lib.joinTail [32] ys : List UInt8), b ≠ 10 := by
        intro ys hy b hb
        simp only [Lib.joinTail] at hb
        obtain ⟨l, hl, hb⟩ := List.mem_flatten.1 hb
        obtain ⟨y, hym, rfl⟩ := List.mem_map.1 hl
        rcases List.mem_append.1 hb with hb | hb
        · obtain rfl : b = 32 := by simpa using hb
          decide
        · exact (hy y hym b hb).2
      exact key xs (fun w hw => h w (by simp [hw])) b hb
theorem rows_clean (es : List EntP) : ∀ l ∈ es.flatMap entRows, ∀ b ∈ l, b ≠ 10 := by
  intro l hl
  obtain ⟨e, _, hl⟩ := List.mem_flatMap.1 hl
  rcases List.mem_cons.1 hl with rfl | hl
  · exact join_clean _ (fun w hw => word_clean e w hw)
  · obtain ⟨h, _, rfl⟩ := List.mem_map.1 hl
    exact join_clean _ (fun w hw => slot_clean h w hw)
theorem split_rows : ∀ (rows : List (List UInt8)), (∀ l ∈ rows, ∀ b ∈ l, b ≠ 10) → splitL 10 ((rows.map fun l => l ++ [10]).flatten) = rows ++ [[]]
  | [], _ => rfl
  | l :: rows, h => by
    rw [List.map_cons, List.flatten_cons, List.append_assoc]
    rw [List.cons_append, List.nil_append, Db.splitL_app 10 _ l (h l (by simp)), split_rows rows (fun x hx => h x (by simp [hx]))]
    rfl
theorem lines_dump (es : List EntP) : linesL (dumpL es) = (es.flatMap entRows).map (·, true) := by
  unfold linesL
  rw [dump_rows, split_rows _ (rows_clean es), linesP_app _ _ (by simp)]
  simp [linesP]
theorem head_split (e : EntP) : splitL 32 (Lib.join (headSS e) [32]) = headSS e :=
  Db.splitL_join 32 _ _ (fun w hw b hb => (word_clean e w hw b hb).1)
theorem slot_split (h : List UInt8 × List UInt8) : splitL 32 (Lib.join (slotSS h) [32]) = slotSS h :=
  Db.splitL_join 32 _ _ (fun w hw b hb => (slot_clean h w hw b hb).1)
theorem ne_of_len {xs : List UInt8} {n : Nat} (h : xs.length = n) (hn : 0 < n) : xs ≠ [] := by rintro rfl; simp at h; omega
theorem acc_head (e : EntP) (hf : e.Fit) : accL (headSS e) = some { e with slots := [] } := by
  have u1 := Db.undig_hex e.addr (ne_of_len hf.ha (by omega))
  have u4 := Db.undig_dot e.code
  have n2 := nonceL_dec e.nonce hf.hn
  have n3 := undecL_dec (valW e.bal) (valW_lt 32 _ hf.hb)
  unfold accL
  rw [if_pos (show (headSS e).length = 5 from rfl)]
  have g1 : (headSS e).getD 1 [] = hexL e.addr := rfl
  have g2 : (headSS e).getD 2 [] = Lib.decDigits e.nonce := rfl
  have g3 : (headSS e).getD 3 [] = Lib.decDigits (valW e.bal) := rfl
  have g4 : (headSS e).getD 4 [] = dotL (hexL e.code) := rfl
  have r0 : rdW (headSS e) 0 zE0 = some zE0 := by
    unfold rdW
    exact if_pos rfl
  have r1 : ∀ x, rdW (headSS e) 1 x = some { x with addr := e.addr } := fun x => by
    simp only [rdW]
    rw [g1, u1, if_pos ⟨rfl, hf.ha⟩]
  have r2 : ∀ x, rdW (headSS e) 2 x = some { x with nonce := e.nonce } := fun x => by
    simp only [rdW]
    rw [g2, n2]; rfl
  have r3 : ∀ x, rdW (headSS e) 3 x = some { x with bal := e.bal } := fun x => by
    simp only [rdW]
    rw [g3, n3, Option.map_some, beL_valW e.bal hf.hb]
  have r4 : ∀ x, rdW (headSS e) 4 x = some { x with code := e.code } := fun x => by
    simp only [rdW]
    rw [g4, u4, if_pos rfl]
  simp only [accK, Option.bind_some, r0, r1, r2, r3, r4]
  rfl
theorem slot_read (h : List UInt8 × List UInt8) (hf : h.1.length = 32 ∧ h.2.length = 32) : slotL (slotSS h) = some h := by
  have u1 := Db.undig_hex h.1 (ne_of_len hf.1 (by omega))
  have u2 := Db.undig_hex h.2 (ne_of_len hf.2 (by omega))
  have g1 : (slotSS h).getD 1 [] = hexL h.1 := rfl
  have g2 : (slotSS h).getD 2 [] = hexL h.2 := rfl
  unfold slotL
  rw [g1, g2, u1, u2, if_pos ⟨rfl, rfl, ⟨rfl, hf.1⟩, ⟨rfl, hf.2⟩⟩]
theorem slot_noacc (h : List UInt8 × List UInt8) : accL (slotSS h) = none := by
  unfold accL
  rw [if_neg (by simp [slotSS])]
theorem holdsB_left (a b : List (List UInt8 × List UInt8)) (i : Nat) (hi : i < a.length) : holdsB (a ++ b) i = holdsB a i := by
  unfold holdsB
  rw [getD_left a b i _ hi]
  by_cases h0 : i = 0
  · subst h0; simp
  · rw [getD_left a b (i - 1) _ (by omega)]
theorem fold_slots (es0 : List EntP) (e : EntP) : ∀ (hs done : List (List UInt8 × List UInt8)), (∀ h ∈ hs, h.1.length = 32 ∧ h.2.length = 32) → (∀ i, done.length ≤ i → i < done.length + hs.length → holdsB (done ++ hs) i = true) →
    ((hs.map fun h => Lib.join (slotSS h) [32]).map fun l => (l, true)).foldlM stepL (es0 ++ [{ e with slots := done }]) = some (es0 ++ [{ e with slots := done ++ hs }])
  | [], done, _, _ => by rw [List.append_nil]; rfl
  | h :: hs, done, hf, hh => by
    have h1 : stepL (es0 ++ [{ e with slots := done }]) (Lib.join (slotSS h) [32], true) = some (es0 ++ [{ e with slots := done ++ [h] }]) := by
      have hk : holdsB (done ++ [h]) done.length = true := by
        have h2 := hh done.length (Nat.le_refl _) (by rw [List.length_cons]; omega)
        have h3 := holdsB_left (done ++ [h]) hs done.length (by simp)
        rw [List.append_assoc] at h3
        rw [← h3]
        exact h2
      unfold stepL
      simp only [slot_split, slot_noacc, slot_read h (hf h (by simp)), List.getLast?_append, List.getLast?_singleton, Option.some_or, List.dropLast_concat, hk, and_self, if_true]
    rw [List.map_cons, List.map_cons, List.foldlM_cons, h1]
    show ((hs.map fun h => Lib.join (slotSS h) [32]).map fun l => (l, true)).foldlM stepL (es0 ++ [{ e with slots := done ++ [h] }]) = _
    rw [fold_slots es0 e hs (done ++ [h]) (fun x hx => hf x (by simp [hx])) (fun i h1 h2 => by
      rw [List.append_assoc]
      rw [List.length_append] at h1 h2
      simp only [List.length_cons, List.length_nil] at h1 h2
      exact hh i (by omega) (by rw [List.length_cons]; omega)), List.append_assoc]
    rfl
theorem fold_ent (es0 : List EntP) (e : EntP) (hf : e.Fit) (hr : risesB (es0 ++ [e]) es0.length = true) (hs : slotsB e.slots = true) : ((entRows e).map fun l => (l, true)).foldlM stepL es0 = some (es0 ++ [e]) := by
  have h1 : stepL es0 (Lib.join (headSS e) [32], true) = some (es0 ++ [{ e with slots := [] }]) := by
    unfold stepL
    simp only [head_split, acc_head e hf, rises_slots, hr, and_self, if_true]
  unfold entRows
  rw [List.map_cons, List.foldlM_cons, h1]
  show ((e.slots.map fun h => Lib.join (slotSS h) [32]).map fun l => (l, true)).foldlM stepL (es0 ++ [{ e with slots := [] }]) = _
  rw [fold_slots es0 e e.slots [] hf.hs (fun i _ h2 => by
    unfold slotsB at hs
    rw [List.all_eq_true] at hs
    exact hs i (List.mem_range.2 (by simpa using h2)))]
  rfl
theorem checkB_app (a b : List EntP) (h : checkB (a ++ b) = true) : checkB a = true := by
  unfold checkB at h ⊢
  rw [List.all_eq_true] at h ⊢
  intro i hi
  have hi := List.mem_range.1 hi
  rw [← goodB_left a b i hi]
  exact h i (List.mem_range.2 (by rw [List.length_append]; omega))
theorem fold_all : ∀ (r es0 : List EntP), (∀ e ∈ r, e.Fit) → checkB (es0 ++ r) = true → ((r.flatMap entRows).map fun l => (l, true)).foldlM stepL es0 = some (es0 ++ r)
  | [], es0, _, _ => by rw [List.append_nil]; rfl
  | e :: r, es0, hf, hc => by
    have hc1 : checkB (es0 ++ [e]) = true := checkB_app (es0 ++ [e]) r (by rw [List.append_assoc]; exact hc)
    rw [checkB_snoc] at hc1
    simp only [Bool.and_eq_true] at hc1
    rw [List.flatMap_cons, List.map_append, List.foldlM_append, fold_ent es0 e (hf e (by simp)) hc1.2.1 hc1.2.2]
    show ((r.flatMap entRows).map fun l => (l, true)).foldlM stepL (es0 ++ [e]) = _
    rw [fold_all r (es0 ++ [e]) (fun x hx => hf x (by simp [hx])) (by rw [List.append_assoc]; exact hc), List.append_assoc]
    rfl
/-- a list comes back from its text -/
theorem parse_dump (es : List EntP) (hf : ∀ e ∈ es, e.Fit) (hc : checkB es = true) : parseGo [] 0 (linesL (dumpL es)) = .inl es := by
  apply parseGo_all
  unfold linesTo
  rw [lines_dump]
  exact fold_all es [] hf hc

/-! the other way round -/
theorem acc_back (ws : List (List UInt8)) (e : EntP) (h : accL ws = some e) : headSS e = ws := by
  unfold accL at h
  split at h
  · rename_i hl
    obtain ⟨w0, w1, w2, w3, w4, rfl⟩ : ∃ a b c d f, ws = [a, b, c, d, f] := by
      obtain _ | ⟨a, l⟩ := ws
      · simp at hl
      obtain _ | ⟨b, l⟩ := l
      · simp at hl
      obtain _ | ⟨c, l⟩ := l
      · simp at hl
      obtain _ | ⟨d, l⟩ := l
      · simp at hl
      obtain _ | ⟨f, l⟩ := l
      · simp at hl
      obtain rfl : l = [] := List.eq_nil_of_length_eq_zero (by simpa using hl)
      exact ⟨a, b, c, d, f, rfl⟩
    obtain ⟨e4, h4, h5⟩ := Option.bind_eq_some_iff.1 (show (accK [w0, w1, w2, w3, w4] 4).bind (rdW [w0, w1, w2, w3, w4] 4) = some e from h)
    obtain ⟨e3, h3, h4⟩ := Option.bind_eq_some_iff.1 (show (accK [w0, w1, w2, w3, w4] 3).bind (rdW [w0, w1, w2, w3, w4] 3) = some e4 from h4)
    obtain ⟨e2, h2, h3⟩ := Option.bind_eq_some_iff.1 (show (accK [w0, w1, w2, w3, w4] 2).bind (rdW [w0, w1, w2, w3, w4] 2) = some e3 from h3)
    obtain ⟨e1, h1, h2⟩ := Option.bind_eq_some_iff.1 (show (accK [w0, w1, w2, w3, w4] 1).bind (rdW [w0, w1, w2, w3, w4] 1) = some e2 from h2)
    obtain ⟨e0, h0, h1⟩ := Option.bind_eq_some_iff.1 (show (accK [w0, w1, w2, w3, w4] 0).bind (rdW [w0, w1, w2, w3, w4] 0) = some e1 from h1)
    have q1 : rdW [w0, w1, w2, w3, w4] 0 e0 = if w0 = accW then some e0 else none := rfl
    have q2 : rdW [w0, w1, w2, w3, w4] 1 e1 = if (undigL w1).2 = true ∧ (undigL w1).1.length = 20 then some { e1 with addr := (undigL w1).1 } else none := rfl
    have q3 : rdW [w0, w1, w2, w3, w4] 2 e2 = (nonceL w2).map fun n => { e2 with nonce := n } := rfl
    have q4 : rdW [w0, w1, w2, w3, w4] 3 e3 = (undecL w3).map fun n => { e3 with bal := beL n 32 } := rfl
    have q5 : rdW [w0, w1, w2, w3, w4] 4 e4 = if (undigL w4).2 = true then some { e4 with code := (undigL w4).1 } else none := rfl
    rw [q1] at h1
    rw [q2] at h2
    rw [q3] at h3
    rw [q4] at h4
    rw [q5] at h5
    split at h1
    · rename_i ha
      split at h2
      · rename_i hu
        split at h5
        · rename_i hu4
          obtain ⟨n, hn, rfl⟩ := Option.map_eq_some_iff.1 h3
          obtain ⟨m, hm, rfl⟩ := Option.map_eq_some_iff.1 h4
          obtain rfl := Option.some.inj h1
          obtain rfl := Option.some.inj h2
          obtain rfl := Option.some.inj h5
          have a1 := Db.undig_len w1 20 (by omega) hu
          have a2 := nonceL_some hn
          have a3 := undecL_some hm
          have a4 := Db.dot_undig w4 hu4
          show [accW, hexL (undigL w1).1, Lib.decDigits n, Lib.decDigits (valW (beL m 32)), dotL (hexL (undigL w4).1)] = _
          rw [a1, ← a2.1, valW_be m a3.2, ← a3.1, a4, ha]
        · cases h5
      · cases h2
    · cases h1
  · cases h
theorem slot_back (ws : List (List UInt8)) (h : List UInt8 × List UInt8) (hs : slotL ws = some h) : slotSS h = ws := by
  unfold slotL at hs
  split at hs
  · rename_i hh
    obtain ⟨w0, w1, w2, rfl⟩ : ∃ a b c, ws = [a, b, c] := by
      have hl := hh.1
      obtain _ | ⟨a, l⟩ := ws
      · simp at hl
      obtain _ | ⟨b, l⟩ := l
      · simp at hl
      obtain _ | ⟨c, l⟩ := l
      · simp at hl
      obtain rfl : l = [] := List.eq_nil_of_length_eq_zero (by simpa using hl)
      exact ⟨a, b, c, rfl⟩
    obtain rfl := Option.some.inj hs
    have a1 := Db.undig_len w1 32 (by omega) hh.2.2.1
    have a2 := Db.undig_len w2 32 (by omega) hh.2.2.2
    have a0 : w0 = slotW := hh.2.1
    show [slotW, hexL (undigL w1).1, hexL (undigL w2).1] = _
    rw [a1, a2, a0]
  · cases hs
theorem dumpL_app (a b : List EntP) : dumpL (a ++ b) = dumpL a ++ dumpL b := by unfold dumpL; rw [List.map_append, List.flatten_append]
theorem dumpL_one (e : EntP) : dumpL [e] = entL e := by simp [dumpL]
theorem step_back (es es' : List EntP) (x : List UInt8) (h : stepL es (x, true) = some es') : dumpL es' = dumpL es ++ (x ++ [10]) := by
  unfold stepL at h
  simp only at h
  cases ha : accL (splitL 32 x) with
  | some e =>
    rw [ha] at h
    simp only at h
    split at h
    · obtain rfl := Option.some.inj h
      rw [dumpL_app, dumpL_one]
      unfold entL
      rw [accL_slots _ _ ha, acc_back _ _ ha]
      unfold lineL
      rw [Db.join_split]
      simp [slotsL]
    · cases h
  | none =>
    rw [ha] at h
    simp only at h
    cases hs : slotL (splitL 32 x) with
    | none => rw [hs] at h; cases h
    | some hh =>
      rw [hs] at h
      simp only at h
      cases hl : es.getLast? with
      | none => rw [hl] at h; cases h
      | some e =>
        rw [hl] at h
        simp only at h
        split at h
        · obtain rfl := Option.some.inj h
          have hne : es ≠ [] := by intro e0; rw [e0] at hl; cases hl
          have hd : es.dropLast ++ [e] = es := by
            have h1 := List.dropLast_concat_getLast hne
            have h2 : es.getLast hne = e := by
              rw [List.getLast?_eq_some_getLast hne] at hl
              exact Option.some.inj hl
            rw [h2] at h1
            exact h1
          conv => rhs; rw [← hd]
          rw [dumpL_app, dumpL_app, dumpL_one, dumpL_one, List.append_assoc]
          congr 1
          unfold entL
          have e1 : headSS { e with slots := e.slots ++ [hh] } = headSS e := rfl
          have e2 : slotsL (e.slots ++ [hh]) = slotsL e.slots ++ lineL (slotSS hh) := by simp [slotsL]
          show lineL (headSS { e with slots := e.slots ++ [hh] }) ++ slotsL (e.slots ++ [hh]) = _
          rw [e1, e2, List.append_assoc]
          congr 2
          unfold lineL
          rw [slot_back _ _ hs, Db.join_split]
        · cases h
theorem go_back : ∀ (L : List (List UInt8 × Bool)) (es0 es : List EntP) (n : Nat), checkB es0 = true → parseGo es0 n L = .inl es → (∀ x ∈ L, x.2 = true) ∧ checkB es = true ∧ dumpL es = dumpL es0 ++ (L.map fun x => x.1 ++ [10]).flatten
  | [], es0, es, n, hc, h => by
    rw [parseGo] at h
    obtain rfl : es0 = es := by injection h
    exact ⟨by simp, hc, by simp⟩
  | (x, b) :: L, es0, es, n, hc, h => by
    rw [parseGo] at h
    cases b with
    | false => rw [stepL_part] at h; cases h
    | true =>
      cases hs : stepL es0 (x, true) with
      | none => rw [hs] at h; cases h
      | some es1 =>
        rw [hs] at h
        have hl := lineO_step es0 x hc
        have hc1 := hl.2 es1 (by rw [hl.1]; exact hs)
        obtain ⟨i1, i2, i3⟩ := go_back L es1 es (n + 1) hc1 h
        refine ⟨fun y hy => ?_, i2, ?_⟩
        · rcases List.mem_cons.1 hy with rfl | hy
          · rfl
          · exact i1 y hy
        · rw [i3, step_back es0 es1 x hs, List.map_cons, List.flatten_cons, List.append_assoc]
theorem join_last (c : UInt8) : ∀ o : List (List UInt8), Lib.join (o ++ [[]]) [c] = (o.map fun l => l ++ [c]).flatten
  | [] => rfl
  | p :: o => by
    have ih := join_last c o
    cases ho : o ++ [[]] with
    | nil => simp at ho
    | cons q qs =>
      rw [List.cons_append, ho, Db.join_cons2, ← ho, ih, List.map_cons, List.flatten_cons, List.append_assoc]
      rfl
theorem lines_whole (s : List UInt8) (h : ∀ x ∈ linesL s, x.2 = true) : ((linesL s).map fun x => x.1 ++ [10]).flatten = s := by
  have hne := splitL_ne 10 s
  have hd := List.dropLast_concat_getLast hne
  have hj := Db.join_split 10 s
  unfold linesL at h ⊢
  rw [← hd, linesP_app _ _ (by simp)] at h
  rw [← hd] at hj
  rw [← hd, linesP_app _ _ (by simp)]
  by_cases hl : (splitL 10 s).getLast hne = []
  · rw [hl] at hj ⊢
    rw [join_last] at hj
    conv => rhs; rw [← hj]
    simp [linesP, List.map_map, Function.comp_def]
  · have := h ((splitL 10 s).getLast hne, false) (by simp [linesP, hl])
    cases this
/-- a text that is read is the list's text -/
theorem dump_parse (s : List UInt8) (es : List EntP) (h : parseGo [] 0 (linesL s) = .inl es) : checkB es = true ∧ dumpL es = s := by
  obtain ⟨h1, h2, h3⟩ := go_back _ [] es 0 rfl h
  refine ⟨h2, ?_⟩
  rw [h3, lines_whole s h1]
  rfl

/-! how long texts are -/
theorem head_len (e : EntP) (hf : e.Fit) : 52 + 2 * e.code.length ≤ (lineL (headSS e)).length ∧ (lineL (headSS e)).length ≤ 151 + 2 * e.code.length := by
  have h1 := hexL_length e.addr
  rw [hf.ha] at h1
  have h2 := dLen 19 _ (Nat.lt_of_lt_of_le hf.hn (by decide))
  have h3 := dLen 77 _ (Nat.lt_of_lt_of_le (valW_lt 32 _ hf.hb) (by decide))
  have h4 := dotL_len (hexL e.code)
  rw [hexL_length] at h4
  have h5 : 2 * e.code.length ≤ (dotL (hexL e.code)).length := by
    rw [← hexL_length]
    unfold dotL
    split
    · rename_i h; rw [h]; simp
    · exact Nat.le_refl _
  have e1 : (lineL (headSS e)).length = accW.length + (1 + (hexL e.addr).length + (1 + (Lib.decDigits e.nonce).length + (1 + (Lib.decDigits (valW e.bal)).length + (1 + (dotL (hexL e.code)).length)))) + 1 := by
    simp [lineL, headSS, Lib.join_cons, Lib.joinTail]
    omega
  have e2 : accW.length = 7 := rfl
  rw [e1, h1, e2]
  omega
theorem slot_len (h : List UInt8 × List UInt8) (hf : h.1.length = 32 ∧ h.2.length = 32) : (lineL (slotSS h)).length = 135 := by
  have h1 := hexL_length h.1
  have h2 := hexL_length h.2
  rw [hf.1] at h1
  rw [hf.2] at h2
  have e1 : (lineL (slotSS h)).length = slotW.length + (1 + (hexL h.1).length + (1 + (hexL h.2).length)) + 1 := by
    simp [lineL, slotSS, Lib.join_cons, Lib.joinTail]
    omega
  have e2 : slotW.length = 4 := rfl
  rw [e1, h1, h2, e2]
theorem slots_len : ∀ (hs : List (List UInt8 × List UInt8)), (∀ h ∈ hs, h.1.length = 32 ∧ h.2.length = 32) → (slotsL hs).length = 135 * hs.length
  | [], _ => rfl
  | h :: hs, hf => by
    have ih := slots_len hs (fun x hx => hf x (by simp [hx]))
    have e : slotsL (h :: hs) = lineL (slotSS h) ++ slotsL hs := by simp [slotsL]
    rw [e, List.length_append, ih, slot_len h (hf h (by simp)), List.length_cons]
    omega
theorem ent_len (e : EntP) (hf : e.Fit) : 52 + 2 * e.code.length + 135 * e.slots.length ≤ (entL e).length ∧ (entL e).length ≤ 151 + 2 * e.code.length + 135 * e.slots.length := by
  have h1 := head_len e hf
  have h2 := slots_len e.slots hf.hs
  unfold entL
  rw [List.length_append, h2]
  omega
theorem dump_ge : ∀ (es : List EntP), (∀ e ∈ es, e.Fit) → 52 * es.length ≤ (dumpL es).length ∧ ∀ e ∈ es, (entL e).length ≤ (dumpL es).length
  | [], _ => ⟨by simp, by simp⟩
  | e :: es, hf => by
    obtain ⟨i1, i2⟩ := dump_ge es (fun x hx => hf x (by simp [hx]))
    have h1 := ent_len e (hf e (by simp))
    have e1 : (dumpL (e :: es)).length = (entL e).length + (dumpL es).length := by rw [← List.length_append]; rfl
    rw [e1, List.length_cons]
    refine ⟨by omega, fun x hx => ?_⟩
    rcases List.mem_cons.1 hx with rfl | hx
    · omega
    · have := i2 x hx; omega
theorem dump_le : ∀ (es : List EntP), (∀ e ∈ es, e.Fit) → (∀ e ∈ es, e.slots.length ≤ 250 ∧ e.code.length ≤ 5019) → (dumpL es).length ≤ 43939 * es.length
  | [], _, _ => by simp [dumpL]
  | e :: es, hf, hs => by
    have ih := dump_le es (fun x hx => hf x (by simp [hx])) (fun x hx => hs x (by simp [hx]))
    have h1 := ent_len e (hf e (by simp))
    have h2 := hs e (by simp)
    have e1 : (dumpL (e :: es)).length = (entL e).length + (dumpL es).length := by rw [← List.length_append]; rfl
    rw [e1, List.length_cons]
    omega
theorem few_dump (es : List EntP) (hf : ∀ e ∈ es, e.Fit) (h : Few20 es) : (dumpL es).length ≤ 1000000 := by
  have := dump_le es hf h.2
  have := h.1
  omega
theorem few_text (es : List EntP) (hf : ∀ e ∈ es, e.Fit) (h : (dumpL es).length ≤ 6000) : FewE es := by
  obtain ⟨h1, h2⟩ := dump_ge es hf
  refine ⟨by omega, fun e he => ?_⟩
  have h3 := h2 e he
  have h4 := ent_len e (hf e he)
  omega
end Go.Proofs.YtfjfjjcdlgdbcaaDoor
namespace Go.Proofs.YtfjfjjcdlgdbcaaDoor
open Go.RowKit Go.Shelf
set_option linter.unusedSimpArgs false
set_option linter.unusedVariables false

theorem RdE.fits {w : World} {A : Option Addr} {n c : Nat} {es : List EntP} (h : RdE w A n c es) : ∀ e ∈ es, e.Fit := by
  intro e he
  obtain ⟨j, hj, rfl⟩ := List.mem_iff_getElem.1 he
  obtain ⟨g, o, _, hc⟩ := h.2.2.2 (by have := h.1; omega)
  obtain ⟨B, m, d, S, k, q, _, h2⟩ := hc j _ (List.getElem?_eq_getElem hj)
  exact h2.fit
theorem dprint_ok {es : List EntP} {t : List UInt8} (h : checkB es = true) (ht : dumpL es = t) : dprintV es = .tuple #[.string (str t), .int .i64 0] := by
  unfold dprintV chkV
  rw [h, ← ht]
  rfl
theorem dprint_no {es : List EntP} (h : checkB es = false) : dprintV es = .tuple #[.string (str []), .int .i64 240] := by
  unfold dprintV chkV
  rw [h]
  rfl
/-- what DumpBack's calls answer -/
structure BackF (w : World) (A : Option Addr) (c : Nat) (es : List EntP) (t : List UInt8) : Prop where
  p1 : ∀ W, Below w.heap.size w W → Calls Tryd.prog 28 #[.slice A es.length c] W fun e w' => e = .returned (dprintV es) ∧ Below W.heap.size W w'
  p2 : ∀ W, Below w.heap.size w W → checkB es = true → Calls Tryd.prog 30 #[.string (str (dumpL es))] W (ParsedL W es)
  p3 : ∀ W, Below w.heap.size w W → t.length ≤ 6000 → Calls Tryd.prog 30 #[.string (str t)] W (ParseEndD W t)
  p4 : ∀ W A' c' es', Below w.heap.size w W → t.length ≤ 6000 → parseGo [] 0 (linesL t) = .inl es' → RdE W A' es'.length c' es' → Calls Tryd.prog 28 #[.slice A' es'.length c'] W fun e w' => e = .returned (.tuple #[.string (str t), .int .i64 0]) ∧ Below W.heap.size W w'
theorem backF {w : World} {A : Option Addr} {c : Nat} {es : List EntP} (t : List UInt8) (h : RdE w A es.length c es) (hL : LaidW w) (hF : Few20 es) : BackF w A c es t := by
  refine ⟨fun W hW => DPrint_calls A _ c es W (h.below hW) (hL.below hW) hF.few, fun W hW hc => ?_, fun W hW ht => Parse_calls t W (by omega) (hL.below hW), fun W A' c' es' hW ht hp hr => ?_⟩
  · have hlen := few_dump es h.fits hF
    exact (Parse_calls (dumpL es) W hlen (hL.below hW)).mono fun e w' he => ended_l (parse_dump es h.fits hc) he
  · obtain ⟨h1, h2⟩ := dump_parse t es' hp
    have h3 := few_text es' hr.fits (by rw [h2]; exact ht)
    have h4 := DPrint_calls A' _ c' es' W hr (hL.below hW) h3
    rw [dprint_ok h1 h2] at h4
    exact h4
set_option maxRecDepth 100000 in
set_option maxHeartbeats 2000000 in
theorem back_yy (A : Option Addr) (c : Nat) (es : List EntP) (t : List UInt8) (w : World) (h : RdE w A es.length c es) (hS : BulkE es) (hL : LaidW w) (ht : t.length ≤ 6000) (hF20 : Few20 es) (hc : checkB es = true) (es2 : List EntP) (hp : parseGo [] 0 (linesL t) = .inl es2) :
    Calls Tryd.prog 8 #[.slice A es.length c, .string (str t)] w fun e w' => e = .returned (.bool true) ∧ Below w.heap.size w w' := by
  have HK := Lib.hid (known26_calls w hL)
  have hB := backF t h hL hF20
  have H := Lib.hid h
  have HF := Lib.hid (fun W (hW : Below w.heap.size w W) => (few27_calls A es.length c es W (h.below hW) hS))
  have hlI : ¬ (6000 : Int) < (t.length : Int) := by omega
  have hszx : (str t).size = t.length := rfl
  have HP1 : Hid (∀ W, Below w.heap.size w W → Calls Tryd.prog 28 #[.slice A es.length c] W fun e w' => e = .returned (.tuple #[.string (str (dumpL es)), .int .i64 0]) ∧ Below W.heap.size W w') := fun W hW => by
    have := hB.p1 W hW
    rw [dprint_ok hc rfl] at this
    exact this
  have HP2 : Hid (∀ W, Below w.heap.size w W → Calls Tryd.prog 30 #[.string (str (dumpL es))] W (ParsedL W es)) := fun W hW => hB.p2 W hW hc
  have HP3 : Hid (∀ W, Below w.heap.size w W → Calls Tryd.prog 30 #[.string (str t)] W (ParsedL W es2)) := fun W hW => (hB.p3 W hW ht).mono fun e w' he => ended_l hp he
  have HP4 : Hid (∀ W A' c', Below w.heap.size w W → RdE W A' es2.length c' es2 → Calls Tryd.prog 28 #[.slice A' es2.length c'] W fun e w' => e = .returned (.tuple #[.string (str t), .int .i64 0]) ∧ Below W.heap.size W w') := fun W A' c' hW hr => hB.p4 W A' c' es2 hW ht hp hr
  have hss : ((str t).toList == (str t).toList) = true := by simp
  clear hp ht
  clear hc
  generalize str (dumpL es) = ts at *
  clear h hS hL hB hF20
  go_enter Tryd.func8, Tryd.ntmps8
  go_wp2_with (go_at_call 26; refine HK.out.mono ?_; rintro e w1 ⟨rfl, hb1⟩)
  refine (HF.out w1 hb1).mono ?_
  rintro e w2 ⟨⟨b, rfl, hfew⟩, hb2⟩
  have hb02 := thn hb1 hb2
  clear hfew
  cases b with
  | false =>
    go_wp2
    go_ret
    exact ⟨rfl, hb02⟩
  | true =>
    go_wp2_with fail
    refine (HP1.out w2 hb02).mono ?_
    rintro e w3 ⟨rfl, hb3⟩
    go_wp2_with fail
    refine (HP2.out w3 (thn hb02 hb3)).mono ?_
    rintro e w4 ⟨hb4, A4, c4, rfl, hr4⟩
    have HR4 := Lib.hid hr4
    clear hr4
    go_wp2_with fail
    refine (same32_calls A _ c A4 c4 es w4 (H.out.below (thn (thn hb02 hb3) hb4)) HR4.out).mono ?_
    rintro e w5 ⟨rfl, hb5⟩
    go_wp2_with fail
    refine (HP3.out w5 (thn (thn (thn hb02 hb3) hb4) hb5)).mono ?_
    rintro e w6 ⟨hb6, A6, c6, rfl, hr6⟩
    have HR6 := Lib.hid hr6
    clear hr6
    go_wp2_with fail
    refine (HP4.out w6 A6 c6 (thn (thn (thn (thn hb02 hb3) hb4) hb5) hb6) HR6.out).mono ?_
    rintro e w7 ⟨rfl, hb7⟩
    go_wp2_with fail
    go_ret
    exact ⟨by simp, thn (thn (thn (thn (thn hb02 hb3) hb4) hb5) hb6) hb7⟩
set_option maxRecDepth 100000 in
set_option maxHeartbeats 2000000 in
theorem back_yn (A : Option Addr) (c : Nat) (es : List EntP) (t : List UInt8) (w : World) (h : RdE w A es.length c es) (hS : BulkE es) (hL : LaidW w) (ht : t.length ≤ 6000) (hF20 : Few20 es) (hc : checkB es = true) (n : Nat) (hp : parseGo [] 0 (linesL t) = .inr n) :
    Calls Tryd.prog 8 #[.slice A es.length c, .string (str t)] w fun e w' => e = .returned (.bool true) ∧ Below w.heap.size w w' := by
  have HK := Lib.hid (known26_calls w hL)
  have hB := backF t h hL hF20
  have H := Lib.hid h
  have HF := Lib.hid (fun W (hW : Below w.heap.size w W) => (few27_calls A es.length c es W (h.below hW) hS))
  have hlI : ¬ (6000 : Int) < (t.length : Int) := by omega
  have hszx : (str t).size = t.length := rfl
  have HP1 : Hid (∀ W, Below w.heap.size w W → Calls Tryd.prog 28 #[.slice A es.length c] W fun e w' => e = .returned (.tuple #[.string (str (dumpL es)), .int .i64 0]) ∧ Below W.heap.size W w') := fun W hW => by
    have := hB.p1 W hW
    rw [dprint_ok hc rfl] at this
    exact this
  have HP2 : Hid (∀ W, Below w.heap.size w W → Calls Tryd.prog 30 #[.string (str (dumpL es))] W (ParsedL W es)) := fun W hW => hB.p2 W hW hc
  have HP3 : Hid (∀ W, Below w.heap.size w W → Calls Tryd.prog 30 #[.string (str t)] W fun e w' => Below W.heap.size W w' ∧ e = .returned (.tuple #[.slice none 0 0, .int .i64 (n : Int), .int .i64 241])) := fun W hW => (hB.p3 W hW ht).mono fun e w' he => ended_r hp he
  have hss : ((str t).toList == (str t).toList) = true := by simp
  clear hp ht
  clear hc
  generalize str (dumpL es) = ts at *
  clear h hS hL hB hF20
  go_enter Tryd.func8, Tryd.ntmps8
  go_wp2_with (go_at_call 26; refine HK.out.mono ?_; rintro e w1 ⟨rfl, hb1⟩)
  refine (HF.out w1 hb1).mono ?_
  rintro e w2 ⟨⟨b, rfl, hfew⟩, hb2⟩
  have hb02 := thn hb1 hb2
  clear hfew
  cases b with
  | false =>
    go_wp2
    go_ret
    exact ⟨rfl, hb02⟩
  | true =>
    go_wp2_with fail
    refine (HP1.out w2 hb02).mono ?_
    rintro e w3 ⟨rfl, hb3⟩
    go_wp2_with fail
    refine (HP2.out w3 (thn hb02 hb3)).mono ?_
    rintro e w4 ⟨hb4, A4, c4, rfl, hr4⟩
    have HR4 := Lib.hid hr4
    clear hr4
    go_wp2_with fail
    refine (same32_calls A _ c A4 c4 es w4 (H.out.below (thn (thn hb02 hb3) hb4)) HR4.out).mono ?_
    rintro e w5 ⟨rfl, hb5⟩
    go_wp2_with fail
    refine (HP3.out w5 (thn (thn (thn hb02 hb3) hb4) hb5)).mono ?_
    rintro e w6 ⟨hb6, rfl⟩
    go_wp2_with fail
    go_ret
    exact ⟨by simp, thn (thn (thn (thn hb02 hb3) hb4) hb5) hb6⟩
set_option maxRecDepth 100000 in
set_option maxHeartbeats 2000000 in
theorem back_ny (A : Option Addr) (c : Nat) (es : List EntP) (t : List UInt8) (w : World) (h : RdE w A es.length c es) (hS : BulkE es) (hL : LaidW w) (ht : t.length ≤ 6000) (hF20 : Few20 es) (hc : checkB es = false) (es2 : List EntP) (hp : parseGo [] 0 (linesL t) = .inl es2) :
    Calls Tryd.prog 8 #[.slice A es.length c, .string (str t)] w fun e w' => e = .returned (.bool true) ∧ Below w.heap.size w w' := by
  have HK := Lib.hid (known26_calls w hL)
  have hB := backF t h hL hF20
  have H := Lib.hid h
  have HF := Lib.hid (fun W (hW : Below w.heap.size w W) => (few27_calls A es.length c es W (h.below hW) hS))
  have hlI : ¬ (6000 : Int) < (t.length : Int) := by omega
  have hszx : (str t).size = t.length := rfl
  have HP1 : Hid (∀ W, Below w.heap.size w W → Calls Tryd.prog 28 #[.slice A es.length c] W fun e w' => e = .returned (.tuple #[.string (str []), .int .i64 240]) ∧ Below W.heap.size W w') := fun W hW => by
    have := hB.p1 W hW
    rw [dprint_no hc] at this
    exact this
  have HP3 : Hid (∀ W, Below w.heap.size w W → Calls Tryd.prog 30 #[.string (str t)] W (ParsedL W es2)) := fun W hW => (hB.p3 W hW ht).mono fun e w' he => ended_l hp he
  have HP4 : Hid (∀ W A' c', Below w.heap.size w W → RdE W A' es2.length c' es2 → Calls Tryd.prog 28 #[.slice A' es2.length c'] W fun e w' => e = .returned (.tuple #[.string (str t), .int .i64 0]) ∧ Below W.heap.size W w') := fun W A' c' hW hr => hB.p4 W A' c' es2 hW ht hp hr
  have hss : ((str t).toList == (str t).toList) = true := by simp
  clear hp ht
  clear hc
  clear h hS hL hB hF20
  go_enter Tryd.func8, Tryd.ntmps8
  go_wp2_with (go_at_call 26; refine HK.out.mono ?_; rintro e w1 ⟨rfl, hb1⟩)
  refine (HF.out w1 hb1).mono ?_
  rintro e w2 ⟨⟨b, rfl, hfew⟩, hb2⟩
  have hb02 := thn hb1 hb2
  clear hfew
  cases b with
  | false =>
    go_wp2
    go_ret
    exact ⟨rfl, hb02⟩
  | true =>
    go_wp2_with fail
    refine (HP1.out w2 hb02).mono ?_
    rintro e w3 ⟨rfl, hb3⟩
    go_wp2_with fail
    refine (HP3.out w3 (thn hb02 hb3)).mono ?_
    rintro e w6 ⟨hb6, A6, c6, rfl, hr6⟩
    have HR6 := Lib.hid hr6
    clear hr6
    go_wp2_with fail
    refine (HP4.out w6 A6 c6 (thn (thn hb02 hb3) hb6) HR6.out).mono ?_
    rintro e w7 ⟨rfl, hb7⟩
    go_wp2_with fail
    go_ret
    exact ⟨by simp, thn (thn (thn hb02 hb3) hb6) hb7⟩
set_option maxRecDepth 100000 in
set_option maxHeartbeats 2000000 in
theorem back_nn (A : Option Addr) (c : Nat) (es : List EntP) (t : List UInt8) (w : World) (h : RdE w A es.length c es) (hS : BulkE es) (hL : LaidW w) (ht : t.length ≤ 6000) (hF20 : Few20 es) (hc : checkB es = false) (n : Nat) (hp : parseGo [] 0 (linesL t) = .inr n) :
    Calls Tryd.prog 8 #[.slice A es.length c, .string (str t)] w fun e w' => e = .returned (.bool true) ∧ Below w.heap.size w w' := by
  have HK := Lib.hid (known26_calls w hL)
  have hB := backF t h hL hF20
  have H := Lib.hid h
  have HF := Lib.hid (fun W (hW : Below w.heap.size w W) => (few27_calls A es.length c es W (h.below hW) hS))
  have hlI : ¬ (6000 : Int) < (t.length : Int) := by omega
  have hszx : (str t).size = t.length := rfl
  have HP1 : Hid (∀ W, Below w.heap.size w W → Calls Tryd.prog 28 #[.slice A es.length c] W fun e w' => e = .returned (.tuple #[.string (str []), .int .i64 240]) ∧ Below W.heap.size W w') := fun W hW => by
    have := hB.p1 W hW
    rw [dprint_no hc] at this
    exact this
  have HP3 : Hid (∀ W, Below w.heap.size w W → Calls Tryd.prog 30 #[.string (str t)] W fun e w' => Below W.heap.size W w' ∧ e = .returned (.tuple #[.slice none 0 0, .int .i64 (n : Int), .int .i64 241])) := fun W hW => (hB.p3 W hW ht).mono fun e w' he => ended_r hp he
  have hss : ((str t).toList == (str t).toList) = true := by simp
  clear hp ht
  clear hc
  clear h hS hL hB hF20
  go_enter Tryd.func8, Tryd.ntmps8
  go_wp2_with (go_at_call 26; refine HK.out.mono ?_; rintro e w1 ⟨rfl, hb1⟩)
  refine (HF.out w1 hb1).mono ?_
  rintro e w2 ⟨⟨b, rfl, hfew⟩, hb2⟩
  have hb02 := thn hb1 hb2
  clear hfew
  cases b with
  | false =>
    go_wp2
    go_ret
    exact ⟨rfl, hb02⟩
  | true =>
    go_wp2_with fail
    refine (HP1.out w2 hb02).mono ?_
    rintro e w3 ⟨rfl, hb3⟩
    go_wp2_with fail
    refine (HP3.out w3 (thn hb02 hb3)).mono ?_
    rintro e w6 ⟨hb6, rfl⟩
    go_wp2_with fail
    go_ret
    exact ⟨by simp, thn (thn hb02 hb3) hb6⟩
set_option maxRecDepth 100000 in
set_option maxHeartbeats 2000000 in
theorem back_long (A : Option Addr) (c : Nat) (es : List EntP) (t : List UInt8) (w : World) (h : RdE w A es.length c es) (hS : BulkE es) (hL : LaidW w) (ht : 6000 < t.length) :
    Calls Tryd.prog 8 #[.slice A es.length c, .string (str t)] w fun e w' => e = .returned (.bool true) ∧ Below w.heap.size w w' := by
  have HK := Lib.hid (known26_calls w hL)
  have HF := Lib.hid (fun W (hW : Below w.heap.size w W) => (few27_calls A es.length c es W (h.below hW) hS))
  have hlI : (6000 : Int) < (t.length : Int) := by omega
  have hszx : (str t).size = t.length := rfl
  clear h hS hL
  go_enter Tryd.func8, Tryd.ntmps8
  go_wp2_with (go_at_call 26; refine HK.out.mono ?_; rintro e w1 ⟨rfl, hb1⟩)
  refine (HF.out w1 hb1).mono ?_
  rintro e w2 ⟨⟨b, rfl, hfew⟩, hb2⟩
  have hb02 := thn hb1 hb2
  clear hfew
  cases b with
  | false =>
    go_wp2
    go_ret
    exact ⟨rfl, hb02⟩
  | true =>
    go_wp2
    go_ret
    exact ⟨rfl, hb02⟩
set_option maxRecDepth 100000 in
set_option maxHeartbeats 2000000 in
theorem back_many (A : Option Addr) (c : Nat) (es : List EntP) (t : List UInt8) (w : World) (h : RdE w A es.length c es) (hS : BulkE es) (hL : LaidW w) (hF : ¬ Few20 es) :
    Calls Tryd.prog 8 #[.slice A es.length c, .string (str t)] w fun e w' => e = .returned (.bool true) ∧ Below w.heap.size w w' := by
  have HK := Lib.hid (known26_calls w hL)
  have HF := Lib.hid (fun W (hW : Below w.heap.size w W) => (few27_calls A es.length c es W (h.below hW) hS))
  have HN := Lib.hid hF
  clear h hS hL hF
  go_enter Tryd.func8, Tryd.ntmps8
  go_wp2_with (go_at_call 26; refine HK.out.mono ?_; rintro e w1 ⟨rfl, hb1⟩)
  refine (HF.out w1 hb1).mono ?_
  rintro e w2 ⟨⟨b, rfl, hfew⟩, hb2⟩
  have hb02 := thn hb1 hb2
  cases b with
  | false =>
    clear hfew
    go_wp2
    go_ret
    exact ⟨rfl, hb02⟩
  | true => exact absurd (hfew rfl) HN.out
theorem dumpBack_walk (A : Option Addr) (n c : Nat) (es : List EntP) (t : List UInt8) (w : World) (h : RdE w A n c es) (hS : BulkE es) (hL : LaidW w) :
    Calls Tryd.prog 8 #[.slice A n c, .string (str t)] w fun e w' => e = .returned (.bool true) ∧ Below w.heap.size w w' := by
  obtain rfl : es.length = n := h.1
  by_cases ht : 6000 < t.length
  · exact back_long A c es t w h hS hL ht
  · by_cases hF : Few20 es
    · cases hc : checkB es with
      | true =>
        cases hp : parseGo [] 0 (linesL t) with
        | inl es2 => exact back_yy A c es t w h hS hL (by omega) hF hc es2 hp
        | inr n => exact back_yn A c es t w h hS hL (by omega) hF hc n hp
      | false =>
        cases hp : parseGo [] 0 (linesL t) with
        | inl es2 => exact back_ny A c es t w h hS hL (by omega) hF hc es2 hp
        | inr n => exact back_nn A c es t w h hS hL (by omega) hF hc n hp
    · exact back_many A c es t w h hS hL hF
end Go.Proofs.YtfjfjjcdlgdbcaaDoor
