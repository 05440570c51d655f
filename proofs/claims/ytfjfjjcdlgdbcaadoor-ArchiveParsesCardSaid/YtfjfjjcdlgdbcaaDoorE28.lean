/- A printed act, parsed -/
import Derived.Test.YtfjfjjcdlgdbcaaDoorE27
namespace Go.Proofs.YtfjfjjcdlgdbcaaDoor
open Go.RowKit
set_option linter.unusedSimpArgs false
set_option linter.unusedVariables false

/-- a field of A, laid into B -/
def layF (A B : ActP) (c : UInt8) : ActP :=
  if c = 97 then { B with addr := A.addr } else if c = 107 then { B with key := A.key } else if c = 119 then { B with word := A.word } else if c = 114 then { B with root := A.root }
  else if c = 110 then { B with n := A.n } else if c = 109 then { B with m := A.m } else if c = 98 then { B with b := A.b } else { B with l := B.l ++ A.l.map fun kv => (kv.1, []) }
/-- an act's fields that its kind needs -/
def normA (A : ActP) : ActP := (kf A.kind).foldl (layF A) (zAct A.kind)
theorem kf_fields (n : Int) : ∀ c ∈ kf n, c = 97 ∨ c = 107 ∨ c = 119 ∨ c = 114 ∨ c = 110 ∨ c = 109 ∨ c = 98 ∨ c = 108 := by
  by_cases h : isKind n
  · have : ∀ k : Fin 28, ∀ c ∈ (kt.getD k.val ([], [])).2, c = 97 ∨ c = 107 ∨ c = 119 ∨ c = 114 ∨ c = 110 ∨ c = 109 ∨ c = 98 ∨ c = 108 := by decide +kernel
    have h2 := this ⟨n.toNat, by unfold isKind at h; omega⟩
    unfold kf
    rw [if_pos (by unfold isKind at h; omega)]
    exact h2
  · rw [kf_no n h]; simp
theorem kf_list (n : Int) (h : (108 : UInt8) ∈ kf n) : n = 22 := by
  by_cases hk : isKind n
  · have : ∀ k : Fin 28, (108 : UInt8) ∈ (kt.getD k.val ([], [])).2 → k.val = 22 := by decide +kernel
    unfold kf at h
    rw [if_pos (by unfold isKind at hk; omega)] at h
    have h2 := this ⟨n.toNat, by unfold isKind at hk; omega⟩ h
    simp only at h2
    unfold isKind at hk
    omega
  · rw [kf_no n hk] at h; cases h
theorem field_back (A B : ActP) (h : A.Fit) (c : UInt8) (hc : c = 97 ∨ c = 107 ∨ c = 119 ∨ c = 114 ∨ c = 110 ∨ c = 109 ∨ c = 98 ∨ c = 108) (hl : c = 108 → anyNil A.l = false) :
    pF B c (fieldL A (c.toNat : Int)) = some (layF A B c) := by
  have ne : ∀ xs : List UInt8, xs.length = 20 ∨ xs.length = 32 → xs ≠ [] := by
    rintro xs h rfl
    simp at h
  rcases hc with rfl | rfl | rfl | rfl | rfl | rfl | rfl | rfl
  · show (if (undigL (hexL A.addr)).2 = true ∧ (undigL (hexL A.addr)).1.length = 20 then some { B with addr := (undigL (hexL A.addr)).1 } else none) = _
    rw [undig_hex _ (ne _ (.inl h.ha)), if_pos ⟨rfl, h.ha⟩]
    rfl
  · show (if (undigL (hexL A.key)).2 = true ∧ (undigL (hexL A.key)).1.length = 32 then some { B with key := (undigL (hexL A.key)).1 } else none) = _
    rw [undig_hex _ (ne _ (.inr h.hk)), if_pos ⟨rfl, h.hk⟩]
    rfl
  · show (if (undigL (hexL A.word)).2 = true ∧ (undigL (hexL A.word)).1.length = 32 then some { B with word := (undigL (hexL A.word)).1 } else none) = _
    rw [undig_hex _ (ne _ (.inr h.hw)), if_pos ⟨rfl, h.hw⟩]
    rfl
  · show (if (undigL (hexL A.root)).2 = true ∧ (undigL (hexL A.root)).1.length = 32 then some { B with root := (undigL (hexL A.root)).1 } else none) = _
    rw [undig_hex _ (ne _ (.inr h.hr)), if_pos ⟨rfl, h.hr⟩]
    rfl
  · show (numL (Lib.itoa A.n)).map (fun n => { B with n := n }) = _
    rw [numL_itoa _ h.hn0 h.hn1]
    rfl
  · show (numL (Lib.itoa A.m)).map (fun n => { B with m := n }) = _
    rw [numL_itoa _ h.hm0 h.hm1]
    rfl
  · show (if (undigL (dotL (hexL A.b))).2 = true then some { B with b := (undigL (dotL (hexL A.b))).1 } else none) = _
    rw [undig_dot, if_pos rfl]
    rfl
  · exact list_back A.l (hl rfl) B
theorem fields_back (A : ActP) (h : A.Fit) : ∀ (fs : List UInt8) (B : ActP), (∀ c ∈ fs, c = 97 ∨ c = 107 ∨ c = 119 ∨ c = 114 ∨ c = 110 ∨ c = 109 ∨ c = 98 ∨ c = 108) → (108 ∈ fs → anyNil A.l = false) →
    parseFs pF B fs (fs.map fun c => fieldL A (c.toNat : Int)) = some (fs.foldl (layF A) B)
  | [], B, _, _ => rfl
  | c :: fs, B, hc, hl => by
    rw [List.map_cons, parseFs, List.headD_cons, field_back A B h c (hc c (by simp)) (fun e => hl (by rw [e]; simp))]
    simp only [List.tail_cons, List.foldl_cons]
    exact fields_back A h fs _ (fun c' hc' => hc c' (by simp [hc'])) (fun hm => hl (by simp [hm]))
/-- the bytes of a field -/
theorem itoa_ok (n : Int) : ∀ b ∈ Lib.itoa n, 45 ≤ b.toNat ∧ b.toNat ≤ 57 := by
  intro b hb
  unfold Lib.itoa at hb
  split at hb
  · rcases List.mem_cons.1 hb with rfl | hb
    · decide
    · have := dec_digit _ _ (Nat.le_refl _) b hb; omega
  · have := dec_digit _ _ (Nat.le_refl _) b hb; omega
theorem field_ok (A : ActP) (c : Int) : ∀ b ∈ fieldL A c, 44 ≤ b.toNat ∧ b.toNat ≤ 102 := by
  have hx : ∀ xs, ∀ b ∈ hexL xs, 44 ≤ b.toNat ∧ b.toNat ≤ 102 := fun xs b hb => by have := hex_ok xs b hb; omega
  have hi : ∀ n, ∀ b ∈ Lib.itoa n, 44 ≤ b.toNat ∧ b.toNat ≤ 102 := fun n b hb => by have := itoa_ok n b hb; omega
  intro b hb
  unfold fieldL at hb
  split at hb
  · exact hx _ b hb
  split at hb
  · exact hx _ b hb
  split at hb
  · exact hx _ b hb
  split at hb
  · exact hx _ b hb
  split at hb
  · exact hi _ b hb
  split at hb
  · exact hi _ b hb
  split at hb
  · unfold dotL at hb
    split at hb
    · simp at hb; subst hb; decide
    · exact hx _ b hb
  unfold listL at hb
  split at hb
  · simp at hb; subst hb; decide
  · rename_i hne
    cases hl : A.l with
    | nil => exact absurd hl hne
    | cons kv l =>
      rw [hl] at hb
      have ek : keysT (kv :: l) = hexL kv.1 :: keysT l := rfl
      rw [ek, Lib.join_cons] at hb
      rcases List.mem_append.1 hb with hb | hb
      · exact hx _ b hb
      · unfold Lib.joinTail at hb
        obtain ⟨y, hy, hb⟩ := List.mem_flatten.1 hb
        obtain ⟨z, hz, rfl⟩ := List.mem_map.1 hy
        obtain ⟨q, _, rfl⟩ := List.mem_map.1 hz
        rcases List.mem_append.1 hb with hb | hb
        · simp at hb; subst hb; decide
        · exact hx _ b hb
theorem kw_ok (n : Int) : ∀ b ∈ kw n, 97 ≤ b.toNat ∧ b.toNat ≤ 122 := by
  by_cases h : isKind n
  · have : ∀ k : Fin 28, ∀ c ∈ (kt.getD k.val ([], [])).1, 97 ≤ c.toNat ∧ c.toNat ≤ 122 := by decide +kernel
    have h2 := this ⟨n.toNat, by unfold isKind at h; omega⟩
    unfold kw
    rw [if_pos (by unfold isKind at h; omega)]
    exact h2
  · rw [kw_no n h]; simp
theorem kind_word (n : Int) (h : isKind n) : kindOf (kw n) = n := by
  have key : ∀ k : Fin 28, 1 ≤ k.val → (∀ j : Fin 28, j.val < k.val → decide ((kt.getD j.val ([], [])).1 ≠ [] ∧ (kt.getD j.val ([], [])).1 = (kt.getD k.val ([], [])).1) = false) ∧ decide ((kt.getD k.val ([], [])).1 ≠ [] ∧ (kt.getD k.val ([], [])).1 = (kt.getD k.val ([], [])).1) = true := by decide +kernel
  have e : kw n = (kt.getD n.toNat ([], [])).1 := by unfold kw; rw [if_pos (by unfold isKind at h; omega)]
  unfold isKind at h
  obtain ⟨h1, h2⟩ := key ⟨n.toNat, by omega⟩ (by simp only; omega)
  rw [e, kindOf_at _ n.toNat (by omega) (fun j hj => h1 ⟨j, by omega⟩ hj) h2]
  omega
theorem printT_split (A : ActP) : splitL 32 (printT A) = kw A.kind :: (kf A.kind).map fun c => fieldL A (c.toNat : Int) := by
  have e : printT A = kw A.kind ++ (((kf A.kind).map fun c => fieldL A (c.toNat : Int)).map fun y => (32 : UInt8) :: y).flatten := by
    unfold printT fieldsT
    rw [List.map_map]
    rfl
  rw [e]
  refine splitL_tail 32 _ _ (fun y hy b hb e => ?_)
  rcases List.mem_cons.1 hy with rfl | hy
  · have := kw_ok _ b hb; rw [e] at this; simp at this
  · obtain ⟨c, _, rfl⟩ := List.mem_map.1 hy
    have := field_ok A _ b hb; rw [e] at this; simp at this
theorem printT_ok (A : ActP) : (printT A).all okByte = true := by
  rw [List.all_eq_true]
  intro b hb
  unfold printT at hb
  have : 32 ≤ b.toNat ∧ b.toNat ≤ 126 := by
    rcases List.mem_append.1 hb with hb | hb
    · have := kw_ok _ b hb; omega
    · unfold fieldsT at hb
      obtain ⟨y, hy, hb⟩ := List.mem_flatten.1 hb
      obtain ⟨c, _, rfl⟩ := List.mem_map.1 hy
      rcases List.mem_cons.1 hb with rfl | hb
      · decide
      · have := field_ok A _ b hb; omega
  exact decide_eq_true this
theorem norm_kind (A : ActP) : (normA A).kind = A.kind := by
  have : ∀ (fs : List UInt8) (B : ActP), (fs.foldl (layF A) B).kind = B.kind := by
    intro fs
    induction fs with
    | nil => intro B; rfl
    | cons c fs ih =>
      intro B
      rw [List.foldl_cons, ih]
      unfold layF
      repeat' split
      all_goals rfl
  unfold normA
  rw [this]
  rfl
theorem keysT_norm (l : List (List UInt8 × List UInt8)) : keysT (l.map fun kv => (kv.1, ([] : List UInt8))) = keysT l := by simp [keysT]
theorem listL_norm (l : List (List UInt8 × List UInt8)) : listL (l.map fun kv => (kv.1, ([] : List UInt8))) = listL l := by
  unfold listL
  rw [keysT_norm]
  cases l <;> simp
theorem anyNil_norm (l : List (List UInt8 × List UInt8)) : anyNil (l.map fun kv => (kv.1, ([] : List UInt8))) = anyNil l := by simp [anyNil, List.any_map, Function.comp_def]
theorem norm_fields (A : ActP) (k : Int) (hk : A.kind = k) (h : isKind k) : ∀ c ∈ kf k, fieldL (normA A) (c.toNat : Int) = fieldL A (c.toNat : Int) := by
  have hl : ∀ fs : List UInt8, fs ∈ [[97, 119], [97, 110], [97, 98], [97, 107, 119], [97], [], [110], [97, 114, 109], [97, 107, 114, 109], [97, 114], [97, 107, 114], [114, 110, 98], [97, 114, 110, 98], [110, 98], [108]] →
      ∀ B : ActP, B.l = [] → ∀ c ∈ fs, fieldL (fs.foldl (layF A) B) (c.toNat : Int) = fieldL A (c.toNat : Int) := by
    intro fs hfs B hB c hc
    simp only [List.mem_cons, List.not_mem_nil, or_false] at hfs
    rcases hfs with rfl | rfl | rfl | rfl | rfl | rfl | rfl | rfl | rfl | rfl | rfl | rfl | rfl | rfl | rfl
    all_goals simp only [List.mem_cons, List.not_mem_nil, or_false] at hc
    all_goals first
      | (rcases hc with rfl | rfl | rfl | rfl <;> rfl)
      | (rcases hc with rfl | rfl | rfl <;> rfl)
      | (rcases hc with rfl | rfl <;> rfl)
      | (subst hc; rfl)
      | (exact hc.elim)
      | skip
    subst hc
    show listL (B.l ++ A.l.map fun kv => (kv.1, [])) = listL A.l
    rw [hB, List.nil_append, listL_norm]
  have hm : ∀ j : Fin 28, 1 ≤ j.val → (kt.getD j.val ([], [])).2 ∈ [[97, 119], [97, 110], [97, 98], [97, 107, 119], [97], [], [110], [97, 114, 109], [97, 107, 114, 109], [97, 114], [97, 107, 114], [114, 110, 98], [97, 114, 110, 98], [110, 98], [108]] := by decide +kernel
  have e : kf k = (kt.getD k.toNat ([], [])).2 := by unfold kf; rw [if_pos (by unfold isKind at h; omega)]
  unfold isKind at h
  intro c hc
  have := hl _ (hm ⟨k.toNat, by omega⟩ (by simp only; omega)) (zAct A.kind) rfl c (by rw [← e]; exact hc)
  simp only at this
  rw [← e] at this
  unfold normA
  rw [hk]
  rw [hk] at this
  exact this
theorem norm_text (A : ActP) (h : isKind A.kind) : printT (normA A) = printT A := by
  unfold printT
  rw [norm_kind]
  congr 1
  unfold fieldsT
  congr 1
  exact List.map_congr_left (fun c hc => by rw [norm_fields A _ rfl h c hc])
theorem norm_l (A : ActP) (h : A.kind = 22) : (normA A).l = A.l.map fun kv => (kv.1, []) := by
  unfold normA
  have : kf A.kind = [108] := by rw [h]; decide
  rw [this]
  rfl
theorem norm_bad (A : ActP) : badA (normA A) = badA A := by
  unfold badA
  rw [norm_kind]
  by_cases h : A.kind = 22
  · rw [norm_l A h, anyNil_norm]
  · simp [h]
/-- a printed act comes back -/
theorem parse_print (A : ActP) (h : A.Fit) (hb : badA A = false) : parseG pF (printT A) = some (normA A) := by
  have hk : isKind A.kind := by
    unfold badA at hb
    simp at hb
    exact hb.1
  have hl : 108 ∈ kf A.kind → anyNil A.l = false := by
    intro hm
    have := kf_list _ hm
    unfold badA at hb
    simp [this] at hb
    exact hb.2
  rw [parseG_at pF _ _ _ (printT_ok A) (printT_split A), kind_word _ hk, if_pos ⟨by unfold isKind at hk; omega, by simp⟩, fields_back A h _ _ (kf_fields _) hl]
  show (if badA (normA A) = false ∧ printT (normA A) = printT A then some (normA A) else none) = _
  rw [if_pos ⟨by rw [norm_bad]; exact hb, norm_text A hk⟩]
end Go.Proofs.YtfjfjjcdlgdbcaaDoor
