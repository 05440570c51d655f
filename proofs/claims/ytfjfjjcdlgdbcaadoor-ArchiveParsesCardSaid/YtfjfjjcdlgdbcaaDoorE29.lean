/- archive.Parse with its fields; bounds -/
import Derived.Test.YtfjfjjcdlgdbcaaDoorE28
namespace Go.Proofs.YtfjfjjcdlgdbcaaDoor
open Go.RowKit
set_option linter.unusedSimpArgs false
set_option linter.unusedVariables false

theorem fieldL_tiny (A : ActP) (h : A.Fit) (hS : A.Tiny) (c : Int) : (fieldL A c).length ≤ 8010000 := by
  unfold fieldL
  repeat' split
  · rw [hexL_length, h.ha]; omega
  · rw [hexL_length, h.hk]; omega
  · rw [hexL_length, h.hw]; omega
  · rw [hexL_length, h.hr]; omega
  · have := itoa_len _ h.hn0 h.hn1; omega
  · have := itoa_len _ h.hm0 h.hm1; omega
  · have := dotL_len (hexL A.b)
    rw [hexL_length] at this
    have := hS.hb
    omega
  · unfold listL
    split
    · simp
    · have := join_len (keysT A.l) 4000 (fun s hs => by
        obtain ⟨kv, hkv, rfl⟩ := List.mem_map.1 hs
        rw [hexL_length]
        have := hS.hkv kv hkv
        omega)
      have h2 : (keysT A.l).length * (4000 + 1) ≤ 2000 * 4001 := Nat.mul_le_mul (by rw [keysT, List.length_map]; exact hS.hl) (by omega)
      omega
theorem printT_tiny (A : ActP) (h : A.Fit) (hS : A.Tiny) : (printT A).length ≤ 100000000 := by
  have key : ∀ fs : List UInt8, (fieldsT A fs).length ≤ fs.length * 8010001 := by
    intro fs
    induction fs with
    | nil => simp [fieldsT]
    | cons c fs ih =>
      have := fieldL_tiny A h hS (c.toNat : Int)
      simp only [fieldsT, List.map_cons, List.flatten_cons, List.length_append, List.length_cons] at ih ⊢
      omega
  have h1 := key (kf A.kind)
  have h2 := kt_len A.kind
  have h3 : (kf A.kind).length * 8010001 ≤ 10 * 8010001 := Nat.mul_le_mul h2.1 (Nat.le_refl _)
  unfold printT
  rw [List.length_append]
  omega
theorem parsedAt_all (c : UInt8) (hc : c = 97 ∨ c = 107 ∨ c = 119 ∨ c = 114 ∨ c = 110 ∨ c = 109 ∨ c = 98 ∨ c = 108) (s : List UInt8) (hs : s.length ≤ 100000000) : ParsedAt pF c s := by
  rcases hc with rfl | rfl | rfl | rfl | rfl | rfl | rfl | rfl
  · exact parsed_addr s hs
  · exact parsed_key s hs
  · exact parsed_word s hs
  · exact parsed_root s hs
  · exact parsed_n s hs
  · exact parsed_m s hs
  · exact parsed_b s hs
  · exact parsed_l s hs
theorem Parse_calls (x : List UInt8) (w : World) (hL : LaidW w) (hx : x.length ≤ 100000000)
    (HSm : ∀ A, parseFs pF (zAct (kindOf ((splitL 32 x).headD []))) (kf (kindOf ((splitL 32 x).headD []))) (splitL 32 x).tail = some A → A.Small) :
    Calls Tryd.prog 37 #[.string (str x)] w (ParseEnd w (parseG pF x)) :=
  Parse_callsG pF x w hL hx (fun c hc s hs => parsedAt_all c (kf_fields _ c hc) s (Nat.le_trans (splitL_part 32 x s hs) hx)) HSm
/-- bounds of what is parsed -/
structure ActP.Thin (A : ActP) (k : Nat) : Prop where
  hb : A.b.length ≤ 3000
  hl : A.l.length ≤ k * 3001
  hkv : ∀ kv ∈ A.l, kv.1.length ≤ 3000
theorem keysP_len (N : Nat) : ∀ (ps : List (List UInt8)) (d : List (List UInt8 × List UInt8)), (∀ p ∈ ps, p.length ≤ N) → keysP ps = some d → ∀ kv ∈ d, kv.1.length ≤ N
  | [], d, _, h => by
    obtain rfl : [] = d := by simpa [keysP] using h
    intro kv hk; cases hk
  | p :: ps, d, hp, h => by
    rw [keysP] at h
    split at h
    · cases hk : keysP ps with
      | none => rw [hk] at h; cases h
      | some e =>
        rw [hk] at h
        obtain rfl : _ = d := Option.some.inj h
        intro kv hkv
        rcases List.mem_cons.1 hkv with rfl | hkv
        · have h1 := undigL_len p
          have h2 := hp p (by simp)
          simp only
          omega
        · exact keysP_len N ps e (fun q hq => hp q (by simp [hq])) hk kv hkv
    · cases h
theorem pF_lean (A A' : ActP) (c : UInt8) (s : List UInt8) (k : Nat) (hs : s.length ≤ 3000) (hA : A.Thin k) (h : pF A c s = some A') : A'.Thin (k + 1) := by
  have hul := undigL_len s
  have hk : A.l.length ≤ (k + 1) * 3001 := Nat.le_trans hA.hl (Nat.mul_le_mul_right 3001 (Nat.le_succ k))
  unfold pF at h
  split at h
  · split at h
    · obtain rfl := Option.some.inj h; exact ⟨hA.hb, hk, hA.hkv⟩
    · cases h
  split at h
  · split at h
    · obtain rfl := Option.some.inj h; exact ⟨hA.hb, hk, hA.hkv⟩
    · cases h
  split at h
  · split at h
    · obtain rfl := Option.some.inj h; exact ⟨hA.hb, hk, hA.hkv⟩
    · cases h
  split at h
  · split at h
    · obtain rfl := Option.some.inj h; exact ⟨hA.hb, hk, hA.hkv⟩
    · cases h
  split at h
  · obtain ⟨n, _, rfl⟩ := Option.map_eq_some_iff.1 h; exact ⟨hA.hb, hk, hA.hkv⟩
  split at h
  · obtain ⟨n, _, rfl⟩ := Option.map_eq_some_iff.1 h; exact ⟨hA.hb, hk, hA.hkv⟩
  split at h
  · split at h
    · obtain rfl := Option.some.inj h; exact ⟨by show (undigL s).1.length ≤ 3000; omega, hk, hA.hkv⟩
    · cases h
  split at h
  · obtain rfl := Option.some.inj h; exact ⟨hA.hb, hk, hA.hkv⟩
  · obtain ⟨d, hd, rfl⟩ := Option.map_eq_some_iff.1 h
    refine ⟨hA.hb, ?_, fun kv hkv => ?_⟩
    · have h1 := keysP_length _ _ hd
      have h2 := splitL_length 44 s
      have h3 := hA.hl
      simp only [List.length_append]
      rw [Nat.add_mul]
      omega
    · rcases List.mem_append.1 hkv with hkv | hkv
      · exact hA.hkv kv hkv
      · exact keysP_len 3000 _ d (fun p hp => Nat.le_trans (splitL_part 44 s p hp) hs) hd kv hkv
theorem parseFs_lean : ∀ (fs : List UInt8) (ws : List (List UInt8)) (A A' : ActP) (k : Nat), (∀ s ∈ ws, s.length ≤ 3000) → A.Thin k → parseFs pF A fs ws = some A' → A'.Thin (k + fs.length)
  | [], ws, A, A', k, _, hA, h => by
    obtain rfl := Option.some.inj h
    exact hA
  | c :: fs, ws, A, A', k, hw, hA, h => by
    rw [parseFs] at h
    cases hp : pF A c (ws.headD []) with
    | none => rw [hp] at h; cases h
    | some A1 =>
      rw [hp] at h
      have h1 := pF_lean A A1 c (ws.headD []) k (by cases ws with
        | nil => simp
        | cons y ys => exact hw y (by simp)) hA hp
      have h2 := parseFs_lean fs ws.tail A1 A' (k + 1) (fun s hs => hw s (List.mem_of_mem_tail hs)) h1 h
      rw [List.length_cons, show k + (fs.length + 1) = k + 1 + fs.length by omega]
      exact h2
theorem parseFs_small (x : List UInt8) (hx : x.length ≤ 3000) (k : Int) (A : ActP) (h : parseFs pF (zAct k) (kf k) (splitL 32 x).tail = some A) : A.Small := by
  have h1 := parseFs_lean _ _ _ _ 0 (fun s hs => Nat.le_trans (splitL_part 32 x s (List.mem_of_mem_tail hs)) hx) ⟨by simp [zAct], by simp [zAct], by simp [zAct]⟩ h
  have h2 := (kt_len k).1
  have h3 := h1.hl
  have h4 := h1.hb
  refine ⟨by omega, ?_, fun kv hkv => by have := h1.hkv kv hkv; omega⟩
  have : (0 + (kf k).length) * 3001 ≤ 10 * 3001 := Nat.mul_le_mul (by omega) (Nat.le_refl _)
  omega
/-- what a line of the law's length is read as -/
theorem Parse_line (x : List UInt8) (w : World) (hL : LaidW w) (hx : x.length ≤ 3000) : Calls Tryd.prog 37 #[.string (str x)] w (ParseEnd w (parseG pF x)) :=
  Parse_calls x w hL (by omega) (fun A hA => parseFs_small x hx _ A hA)
theorem parseG_some (x : List UInt8) (A : ActP) (h : parseG pF x = some A) : parseFs pF (zAct (kindOf ((splitL 32 x).headD []))) (kf (kindOf ((splitL 32 x).headD []))) (splitL 32 x).tail = some A ∧ badA A = false ∧ printT A = x := by
  unfold parseG at h
  split at h
  · split at h
    · cases hp : parseFs pF (zAct (kindOf ((splitL 32 x).headD []))) (kf (kindOf ((splitL 32 x).headD []))) (splitL 32 x).tail with
      | none => rw [hp] at h; cases h
      | some B =>
        rw [hp] at h
        simp only at h
        split at h
        · rename_i hb
          obtain rfl := Option.some.inj h
          exact ⟨rfl, hb⟩
        · cases h
    · cases h
  · cases h
theorem norm_small (A : ActP) (h : A.Tiny) : (normA A).Small := by
  have kb : ∀ (fs : List UInt8) (B : ActP), (fs.foldl (layF A) B).b = A.b ∨ (fs.foldl (layF A) B).b = B.b := by
    intro fs
    induction fs with
    | nil => intro B; exact .inr rfl
    | cons c fs ih =>
      intro B
      rw [List.foldl_cons]
      rcases ih (layF A B c) with h1 | h1
      · exact .inl h1
      · rw [h1]
        unfold layF
        repeat' split
        all_goals first | exact .inr rfl | exact .inl rfl
  have kl : ∀ (fs : List UInt8) (B : ActP), (∀ c ∈ fs, c = 97 ∨ c = 107 ∨ c = 119 ∨ c = 114 ∨ c = 110 ∨ c = 109 ∨ c = 98 ∨ c = 108) → ¬ 108 ∈ fs → (fs.foldl (layF A) B).l = B.l := by
    intro fs
    induction fs with
    | nil => intro B _ _; rfl
    | cons c fs ih =>
      intro B hf hn
      have hc := hf c (by simp)
      have hcn : ¬ c = 108 := fun e => hn (by rw [e]; simp)
      rw [List.foldl_cons, ih _ (fun c' hc' => hf c' (by simp [hc'])) (fun hm => hn (by simp [hm]))]
      rcases hc with rfl | rfl | rfl | rfl | rfl | rfl | rfl | rfl
      all_goals first | rfl | exact absurd rfl hcn
  have hb : (normA A).b.length ≤ 2000000 := by
    rcases kb (kf A.kind) (zAct A.kind) with h1 | h1
    · show ((kf A.kind).foldl (layF A) (zAct A.kind)).b.length ≤ _
      rw [h1]; have := h.hb; omega
    · show ((kf A.kind).foldl (layF A) (zAct A.kind)).b.length ≤ _
      rw [h1]; simp [zAct]
  by_cases h22 : (108 : UInt8) ∈ kf A.kind
  · have hn := norm_l A (kf_list _ h22)
    refine ⟨hb, by rw [hn, List.length_map]; have := h.hl; omega, fun kv hkv => ?_⟩
    rw [hn] at hkv
    obtain ⟨kv', hk', rfl⟩ := List.mem_map.1 hkv
    have := h.hkv kv' hk'
    simp only
    omega
  · have hn : (normA A).l = [] := by
      unfold normA
      rw [kl _ _ (kf_fields _) h22]
      rfl
    exact ⟨hb, by rw [hn]; simp, fun kv hkv => by rw [hn] at hkv; cases hkv⟩
theorem Parse_printed (A : ActP) (h : A.Fit) (hT : A.Tiny) (hb : badA A = false) (w : World) (hL : LaidW w) : Calls Tryd.prog 37 #[.string (str (printT A))] w (ParseEnd w (some (normA A))) := by
  have hp := parse_print A h hb
  have := Parse_calls (printT A) w hL (printT_tiny A h hT) (fun B hB => by
    have h1 := (parseG_some _ _ hp).1
    rw [h1] at hB
    obtain rfl := Option.some.inj hB
    exact norm_small A hT)
  rw [hp] at this
  exact this
end Go.Proofs.YtfjfjjcdlgdbcaaDoor
