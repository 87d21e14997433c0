/- Packed by a program of this repo: Vk Ub Uc Ud Uf Vl. -/
import Derived.Test.YtodoejfkjimeaaaDoorKRVg
import Derived.Test.YtodoejfkjimeaaaDoorKRUo
import Derived.Test.YtodoejfkjimeaaaDoorKRUe
import Derived.Test.YtodoejfkjimeaaaDoorKRSh6
set_option linter.unusedSimpArgs false
set_option linter.unusedVariables false
set_option maxRecDepth 100000
namespace Go.Proofs.YtodoejfkjimeaaaDoor
open Go Go.RowKit Am
def kcl (l : Tx) : Int :=
  if l[0]? = some 67 then (if l[1]? = some 79 then 9 else if l[7]? = some 84 then 1 else 2)
  else if l[0]? = some 68 then (if l[1]? = some 82 then 3 else 6)
  else if l[0]? = some 73 then 4 else if l[0]? = some 85 then 5 else if l[0]? = some 83 then 7 else if l[0]? = some 66 then 8 else 10
theorem kcl_is (x : Sm) (hk : SOk x) (hs : SSh x) : kcl (stmtT x) = x.kind := by
  have h1 := hk.kind1
  have h2 := hk.kind10
  have hkk : x.kind = 1 ∨ x.kind = 2 ∨ x.kind = 3 ∨ x.kind = 4 ∨ x.kind = 5 ∨ x.kind = 6 ∨ x.kind = 7 ∨ x.kind = 8 ∨ x.kind = 9 ∨ x.kind = 10 := by omega
  rcases hkk with h | h | h | h | h | h | h | h | h | h
  · simp [stmtT, createT, h, kcl]
  · simp [stmtT, h, kcl]
  · simp [stmtT, h, kcl]
  · simp [stmtT, h, kcl]
  · simp [stmtT, h, kcl]
  · simp [stmtT, h, kcl]
  · have hi := hs.items.1 h
    cases he : x.items with
    | nil => exact absurd he hi
    | cons e l => simp [stmtT, queryT, h, kcl, he, joinT]
  · simp [stmtT, h, kcl]
  · simp [stmtT, h, kcl]
  · simp [stmtT, h, kcl]
def NB (c : UInt8) (s : Tx) : Prop := s = [] ∨ ∃ d r, s = 32 :: d :: r ∧ d ≠ c
theorem NB.tl {c : UInt8} {s : Tx} (h : NB c s) : Tl s := h.imp (fun h => h) (fun ⟨d, r, h1, _⟩ => ⟨32, d :: r, h1, .inl rfl⟩)
theorem Tl.stop {s : Tx} (h : Tl s) : Stop isNm s := h.dl.n
theorem NB.no {c : UInt8} {s r : Tx} (h : NB c s) : s ≠ 32 :: c :: r := by
  rintro rfl
  rcases h with h | ⟨d, r', h1, h2⟩
  · cases h
  · cases h1; exact h2 rfl
theorem nb_join {c d : UInt8} (W : Tx) (hd : d ≠ c) (ps : List Tx) {s : Tx} (hs : NB c s) : NB c (joinT (32 :: d :: W) ps ++ s) := by
  cases ps with
  | nil => exact hs
  | cons p ps => exact .inr ⟨d, _, rfl, hd⟩
theorem opt_inj (c : UInt8) (W : Tx) {xs ys : List Ep} {s t : Tx} (hx : ∀ x ∈ xs, EOk x) (hy : ∀ y ∈ ys, EOk y) (hs : NB c s) (ht : NB c t) (h : joinT (32 :: c :: W) (xs.map printF) ++ s = joinT (32 :: c :: W) (ys.map printF) ++ t) : xs = ys ∧ s = t := by
  cases xs with
  | nil =>
    cases ys with
    | nil => exact ⟨rfl, h⟩
    | cons y ys => exact absurd h hs.no
  | cons x xs =>
    cases ys with
    | nil => exact absurd h.symm ht.no
    | cons y ys => exact es_inj _ (by simp) (by simp) hx hy hs.tl ht.tl h
def limT (x : Sm) : Tx := if 0 ≤ x.limit then [32, 76, 73, 77, 73, 84, 32] ++ decF 40 x.limit else []
theorem lim_nb {c : UInt8} (h : (76 : UInt8) ≠ c) (x : Sm) : NB c (limT x) := by
  unfold limT
  split
  · exact .inr ⟨76, _, rfl, h⟩
  · exact .inl rfl
theorem lim_ot (x : Sm) : OT (limT x) := by
  unfold limT
  split
  · exact .inr ⟨_, rfl⟩
  · exact .inl rfl
theorem lim_inj {a b : Sm} (ha : -1 ≤ a.limit ∧ a.limit ≤ 2147483648) (hb : -1 ≤ b.limit ∧ b.limit ≤ 2147483648) (h : limT a = limT b) : a.limit = b.limit := by
  unfold limT at h
  by_cases h1 : 0 ≤ a.limit
  · by_cases h2 : 0 ≤ b.limit
    · rw [if_pos h1, if_pos h2] at h
      have h3 := List.append_cancel_left h
      exact (dec_inj (s := []) (t := []) h1 h2 (by unfold rng; omega) (by unfold rng; omega) (fun c r e => by cases e) (fun c r e => by cases e) (by rw [h3])).1
    · rw [if_pos h1, if_neg h2] at h; simp at h
  · by_cases h2 : 0 ≤ b.limit
    · rw [if_neg h1, if_pos h2] at h; simp at h
    · omega
def joT (x : Sm) : Tx := if x.join = [] then [] else [32, 74, 79, 73, 78, 32] ++ x.join
theorem jo_tl (x : Sm) {s : Tx} (h : Tl s) : Tl (joT x ++ s) := by
  unfold joT
  split
  · exact h
  · exact tl_cons _ _ (.inl rfl)
theorem jo_inj {a b : Sm} {s t : Tx} (ha : a.join = [] ∨ nameL a.join = true) (hb : b.join = [] ∨ nameL b.join = true) (hs : NB 74 s) (ht : NB 74 t) (h : joT a ++ s = joT b ++ t) : a.join = b.join ∧ s = t := by
  unfold joT at h
  by_cases h1 : a.join = []
  · by_cases h2 : b.join = []
    · rw [if_pos h1, if_pos h2] at h; exact ⟨h1.trans h2.symm, h⟩
    · rw [if_pos h1, if_neg h2] at h; exact absurd h hs.no
  · by_cases h2 : b.join = []
    · rw [if_neg h1, if_pos h2] at h; exact absurd h.symm ht.no
    · rw [if_neg h1, if_neg h2, List.append_assoc, List.append_assoc] at h
      exact nm_inj (ha.resolve_left h1) (hb.resolve_left h2) hs.tl.stop ht.tl.stop (List.append_cancel_left h)
theorem query_eq (x : Sm) : queryT x = joinT [83, 69, 76, 69, 67, 84, 32] (x.items.map printF) ++ ([32, 70, 82, 79, 77, 32] ++ (x.table ++ (joT x ++ (joinT [32, 79, 78, 32] (x.on.map printF) ++ (joinT [32, 87, 72, 69, 82, 69, 32] (x.where_.map printF)
    ++ (joinT [32, 71, 82, 79, 85, 80, 32, 66, 89, 32] (x.group.map printF) ++ (joinT [32, 79, 82, 68, 69, 82, 32, 66, 89, 32] (x.order.map ordT) ++ limT x))))))) := by
  unfold queryT whereT joT limT
  simp only [List.append_assoc]
theorem sm_all {a b : Sm} (h1 : a.kind = b.kind) (h2 : a.table = b.table) (h3 : a.columns = b.columns) (h4 : a.key = b.key) (h5 : a.index = b.index) (h6 : a.rows = b.rows) (h7 : a.sets = b.sets) (h8 : a.items = b.items) (h9 : a.join = b.join) (h10 : a.on = b.on) (h11 : a.where_ = b.where_) (h12 : a.group = b.group) (h13 : a.order = b.order) (h14 : a.limit = b.limit) : a = b := by
  obtain ⟨a1, a2, a3, a4, a5, a6, a7, a8, a9, a10, a11, a12, a13, a14⟩ := a
  obtain ⟨b1, b2, b3, b4, b5, b6, b7, b8, b9, b10, b11, b12, b13, b14⟩ := b
  simp only at h1 h2 h3 h4 h5 h6 h7 h8 h9 h10 h11 h12 h13 h14
  rw [h1, h2, h3, h4, h5, h6, h7, h8, h9, h10, h11, h12, h13, h14]
theorem stmt_inj (a b : Sm) (ga : SRg a) (gb : SRg b) (ka : SOk a) (kb : SOk b) (sa : SSh a) (sb : SSh b) (h : stmtT a = stmtT b) : a = b := by
  have hk : a.kind = b.kind := by rw [← kcl_is a ka sa, ← kcl_is b kb sb, h]
  have ea : ∀ {l : List Ep}, l ∈ listsF a → (∀ e ∈ l, Rg e) → ∀ e ∈ l, EOk e := fun hl hg e he => ⟨ka.ok _ hl e he, hg e he⟩
  have eb : ∀ {l : List Ep}, l ∈ listsF b → (∀ e ∈ l, Rg e) → ∀ e ∈ l, EOk e := fun hl hg e he => ⟨kb.ok _ hl e he, hg e he⟩
  have wa := ea (in_where a) ga.where_
  have wb := eb (in_where b) gb.where_
  have emp : ∀ {α : Type} {l m : List α}, l = [] → m = [] → l = m := fun h1 h2 => h1.trans h2.symm
  have h1 := ka.kind1
  have h2 := ka.kind10
  have z_cols : a.kind ≠ 1 → a.columns = b.columns := fun h => emp (sa.cols.2 h) (sb.cols.2 (hk ▸ h))
  have z_rows : a.kind ≠ 4 → a.rows = b.rows := fun h => emp (sa.rows.2 h) (sb.rows.2 (hk ▸ h))
  have z_sets : a.kind ≠ 5 → a.sets = b.sets := fun h => emp (sa.sets.2 h) (sb.sets.2 (hk ▸ h))
  have z_items : a.kind ≠ 7 → a.items = b.items := fun h => emp (sa.items.2 h) (sb.items.2 (hk ▸ h))
  have z_ja : a.kind ≠ 7 → a.join = [] := fun h => sa.join.resolve_right (fun h' => h h'.1)
  have z_jb : a.kind ≠ 7 → b.join = [] := fun h => sb.join.resolve_right (fun h' => h (hk.trans h'.1))
  have z_join : a.kind ≠ 7 → a.join = b.join := fun h => emp (z_ja h) (z_jb h)
  have z_on : a.kind ≠ 7 → a.on = b.on := fun h => emp (sa.on.2 (z_ja h)) (sb.on.2 (z_jb h))
  have z_where : a.kind ≤ 4 ∨ 7 < a.kind → a.where_ = b.where_ := fun h => emp (sa.where_.2 h) (sb.where_.2 (hk ▸ h))
  have z_group : a.kind ≠ 7 → a.group = b.group := fun h => emp (sa.group.2 h) (sb.group.2 (hk ▸ h))
  have z_order : a.kind ≠ 7 → a.order = b.order := fun h => emp (sa.order h) (sb.order (hk ▸ h))
  have z_limit : a.kind ≠ 7 → a.limit = b.limit := fun h => (sa.limit h).trans (sb.limit (hk ▸ h)).symm
  have z_key : 2 < a.kind → a.key = b.key := fun h => emp (sa.key.2 h) (sb.key.2 (hk ▸ h))
  have z_index : a.kind ≠ 2 → a.index = b.index := fun h => emp (sa.index.2 h) (sb.index.2 (hk ▸ h))
  have z_table : 7 < a.kind → a.table = b.table := fun h => emp (sa.table.2 h) (sb.table.2 (hk ▸ h))
  have n_ta : a.kind ≤ 7 → nameL a.table = true := sa.table.1
  have n_tb : a.kind ≤ 7 → nameL b.table = true := fun h => sb.table.1 (hk ▸ h)
  have wtl : ∀ (x : Sm), Tl (joinT [32, 87, 72, 69, 82, 69, 32] (x.where_.map printF)) := fun x => by
    cases x.where_ with
    | nil => exact .inl rfl
    | cons e l => exact tl_cons _ _ (.inl rfl)
  have winj : joinT [32, 87, 72, 69, 82, 69, 32] (a.where_.map printF) = joinT [32, 87, 72, 69, 82, 69, 32] (b.where_.map printF) → a.where_ = b.where_ := fun h => (opt_inj 87 [72, 69, 82, 69, 32] (s := []) (t := []) wa wb (.inl rfl) (.inl rfl) (by rw [List.append_nil, List.append_nil]; exact h)).1
  have hkk : a.kind = 1 ∨ a.kind = 2 ∨ a.kind = 3 ∨ a.kind = 4 ∨ a.kind = 5 ∨ a.kind = 6 ∨ a.kind = 7 ∨ 8 ≤ a.kind := by omega
  rcases hkk with k | k | k | k | k | k | k | k
  · have k' : b.kind = 1 := hk ▸ k
    have h' : createT a = createT b := by simpa [stmtT, k, k'] using h
    unfold createT at h'
    simp only [List.append_assoc] at h'
    have h3 := List.append_cancel_left h'
    have st : ∀ (cs : List Cl) (u : Tx), cs ≠ [] → Stop isNm (joinT [32, 40] (cs.map colT) ++ u) := by
      intro cs u hc
      cases cs with
      | nil => exact absurd rfl hc
      | cons c cs => exact stop_cons (by decide) _
    have na := sa.cols.1 k
    have nb := sb.cols.1 k'
    obtain ⟨ht, h4⟩ := nm_inj (n_ta (by omega)) (n_tb (by omega)) (st _ _ na) (st _ _ nb) h3
    obtain ⟨hc, h5⟩ := colh_inj [32, 40] na nb (fun c hc => ⟨sa.colname c hc, ka.col c hc⟩) (fun c hc => ⟨sb.colname c hc, kb.col c hc⟩) (s := [82, 73, 77, 65, 82, 89, 32, 75, 69, 89, 32, 40] ++ (a.key ++ [41, 41])) (t := [82, 73, 77, 65, 82, 89, 32, 75, 69, 89, 32, 40] ++ (b.key ++ [41, 41])) (by simpa using h4)
    have h6 := List.append_cancel_left h5
    have hkey := (List.append_cancel_right h6 : a.key = b.key)
    exact sm_all hk ht hc hkey (z_index (by omega)) (z_rows (by omega)) (z_sets (by omega)) (z_items (by omega)) (z_join (by omega)) (z_on (by omega)) (z_where (by omega)) (z_group (by omega)) (z_order (by omega)) (z_limit (by omega))
  · have k' : b.kind = 2 := hk ▸ k
    have h' := h
    simp only [stmtT, k, k'] at h'
    simp only [show ¬ ((2 : Int) = 1) by omega, if_false, if_true, List.append_assoc] at h'
    have h3 := List.append_cancel_left h'
    obtain ⟨hi, h4⟩ := nm_inj (sa.index.1 k) (sb.index.1 k') (stop_cons (by decide) _) (stop_cons (by decide) _) h3
    have h5 : a.table ++ ([32, 40] ++ (a.key ++ [41])) = b.table ++ ([32, 40] ++ (b.key ++ [41])) := by simpa using h4
    obtain ⟨ht, h6⟩ := nm_inj (n_ta (by omega)) (n_tb (by omega)) (stop_cons (by decide) _) (stop_cons (by decide) _) h5
    have h7 : a.key ++ [41] = b.key ++ [41] := by simpa using h6
    exact sm_all hk ht (z_cols (by omega)) (List.append_cancel_right h7) hi (z_rows (by omega)) (z_sets (by omega)) (z_items (by omega)) (z_join (by omega)) (z_on (by omega)) (z_where (by omega)) (z_group (by omega)) (z_order (by omega)) (z_limit (by omega))
  · have k' : b.kind = 3 := hk ▸ k
    have h3 : a.table = b.table := by simpa [stmtT, k, k'] using h
    exact sm_all hk h3 (z_cols (by omega)) (z_key (by omega)) (z_index (by omega)) (z_rows (by omega)) (z_sets (by omega)) (z_items (by omega)) (z_join (by omega)) (z_on (by omega)) (z_where (by omega)) (z_group (by omega)) (z_order (by omega)) (z_limit (by omega))
  · have k' : b.kind = 4 := hk ▸ k
    have h3 : a.table ++ joinT [32, 86, 65, 76, 85, 69, 83, 32] (a.rows.map rowT) = b.table ++ joinT [32, 86, 65, 76, 85, 69, 83, 32] (b.rows.map rowT) := by simpa [stmtT, k, k'] using h
    have na := sa.rows.1 k
    have nb := sb.rows.1 k'
    have st : ∀ (cs : List (List Ep)), cs ≠ [] → Stop isNm (joinT [32, 86, 65, 76, 85, 69, 83, 32] (cs.map rowT)) := by
      intro cs hc
      cases cs with
      | nil => exact absurd rfl hc
      | cons c cs => exact stop_cons (by decide) _
    obtain ⟨ht, h4⟩ := nm_inj (n_ta (by omega)) (n_tb (by omega)) (st _ na) (st _ nb) h3
    have hr := (rows_inj [32, 86, 65, 76, 85, 69, 83, 32] na nb (fun l hl => ⟨fun e => (by have := (ka.row l hl).1; rw [e] at this; simp at this), ea (in_rows hl) (ga.row l hl)⟩) (fun l hl => ⟨fun e => (by have := (kb.row l hl).1; rw [e] at this; simp at this), eb (in_rows hl) (gb.row l hl)⟩) (s := []) (t := []) (.inl rfl) (.inl rfl) (by rw [List.append_nil, List.append_nil]; exact h4)).1
    exact sm_all hk ht (z_cols (by omega)) (z_key (by omega)) (z_index (by omega)) hr (z_sets (by omega)) (z_items (by omega)) (z_join (by omega)) (z_on (by omega)) (z_where (by omega)) (z_group (by omega)) (z_order (by omega)) (z_limit (by omega))
  · have k' : b.kind = 5 := hk ▸ k
    have h3 : a.table ++ (joinT [32, 83, 69, 84, 32] (a.sets.map setT) ++ whereT a) = b.table ++ (joinT [32, 83, 69, 84, 32] (b.sets.map setT) ++ whereT b) := by simpa [stmtT, k, k'] using h
    have na := sa.sets.1 k
    have nb := sb.sets.1 k'
    have st : ∀ (cs : List Se) (u : Tx), cs ≠ [] → Stop isNm (joinT [32, 83, 69, 84, 32] (cs.map setT) ++ u) := by
      intro cs u hc
      cases cs with
      | nil => exact absurd rfl hc
      | cons c cs => exact stop_cons (by decide) _
    obtain ⟨ht, h4⟩ := nm_inj (n_ta (by omega)) (n_tb (by omega)) (st _ _ na) (st _ _ nb) h3
    obtain ⟨hset, h5⟩ := sets_inj [32, 83, 69, 84, 32] na nb (fun s hs => ⟨sa.setname s hs, ka.ok _ (in_sets hs) s.ex List.mem_cons_self, ga.set s hs⟩) (fun s hs => ⟨sb.setname s hs, kb.ok _ (in_sets hs) s.ex List.mem_cons_self, gb.set s hs⟩) (wtl a) (wtl b) h4
    exact sm_all hk ht (z_cols (by omega)) (z_key (by omega)) (z_index (by omega)) (z_rows (by omega)) hset (z_items (by omega)) (z_join (by omega)) (z_on (by omega)) (winj h5) (z_group (by omega)) (z_order (by omega)) (z_limit (by omega))
  · have k' : b.kind = 6 := hk ▸ k
    have h3 : a.table ++ whereT a = b.table ++ whereT b := by simpa [stmtT, k, k'] using h
    obtain ⟨ht, h4⟩ := nm_inj (n_ta (by omega)) (n_tb (by omega)) (wtl a).stop (wtl b).stop h3
    exact sm_all hk ht (z_cols (by omega)) (z_key (by omega)) (z_index (by omega)) (z_rows (by omega)) (z_sets (by omega)) (z_items (by omega)) (z_join (by omega)) (z_on (by omega)) (winj h4) (z_group (by omega)) (z_order (by omega)) (z_limit (by omega))
  · have k' : b.kind = 7 := hk ▸ k
    have h' : queryT a = queryT b := by simpa [stmtT, k, k'] using h
    rw [query_eq, query_eq] at h'
    have nbl : ∀ (x : Sm) (c : UInt8), (76 : UInt8) ≠ c → (79 : UInt8) ≠ c → NB c (joinT [32, 79, 82, 68, 69, 82, 32, 66, 89, 32] (x.order.map ordT) ++ limT x) := fun x c h1 h2 => nb_join (d := 79) _ h2 _ (lim_nb h1 x)
    have nbg : ∀ (x : Sm) (c : UInt8), (76 : UInt8) ≠ c → (79 : UInt8) ≠ c → (71 : UInt8) ≠ c → NB c (joinT [32, 71, 82, 79, 85, 80, 32, 66, 89, 32] (x.group.map printF) ++ (joinT [32, 79, 82, 68, 69, 82, 32, 66, 89, 32] (x.order.map ordT) ++ limT x)) := fun x c h1 h2 h3 => nb_join (d := 71) _ h3 _ (nbl x c h1 h2)
    have nbw : ∀ (x : Sm) (c : UInt8), (76 : UInt8) ≠ c → (79 : UInt8) ≠ c → (71 : UInt8) ≠ c → (87 : UInt8) ≠ c → NB c (joinT [32, 87, 72, 69, 82, 69, 32] (x.where_.map printF) ++ (joinT [32, 71, 82, 79, 85, 80, 32, 66, 89, 32] (x.group.map printF) ++ (joinT [32, 79, 82, 68, 69, 82, 32, 66, 89, 32] (x.order.map ordT) ++ limT x))) := fun x c h1 h2 h3 h4 => nb_join (d := 87) _ h4 _ (nbg x c h1 h2 h3)
    have nbo : ∀ (x : Sm), NB 74 (joinT [32, 79, 78, 32] (x.on.map printF) ++ (joinT [32, 87, 72, 69, 82, 69, 32] (x.where_.map printF) ++ (joinT [32, 71, 82, 79, 85, 80, 32, 66, 89, 32] (x.group.map printF) ++ (joinT [32, 79, 82, 68, 69, 82, 32, 66, 89, 32] (x.order.map ordT) ++ limT x)))) := fun x => nb_join (d := 79) _ (by decide) _ (nbw x 74 (by decide) (by decide) (by decide) (by decide))
    obtain ⟨hi, h3⟩ := es_inj _ (sa.items.1 k) (sb.items.1 k') (ea (in_items a) ga.items) (eb (in_items b) gb.items) (tl_cons _ _ (.inl rfl)) (tl_cons _ _ (.inl rfl)) h'
    have h4 := List.append_cancel_left (show ([32, 70, 82, 79, 77, 32] : Tx) ++ _ = ([32, 70, 82, 79, 77, 32] : Tx) ++ _ from h3)
    obtain ⟨ht, h5⟩ := nm_inj (n_ta (by omega)) (n_tb (by omega)) (jo_tl a (nbo a).tl).stop (jo_tl b (nbo b).tl).stop h4
    obtain ⟨hj, h6⟩ := jo_inj (sa.join.imp (fun h => h) (fun h => h.2)) (sb.join.imp (fun h => h) (fun h => h.2)) (nbo a) (nbo b) h5
    have hon : a.on = b.on ∧ joinT [32, 87, 72, 69, 82, 69, 32] (a.where_.map printF) ++ (joinT [32, 71, 82, 79, 85, 80, 32, 66, 89, 32] (a.group.map printF) ++ (joinT [32, 79, 82, 68, 69, 82, 32, 66, 89, 32] (a.order.map ordT) ++ limT a)) = joinT [32, 87, 72, 69, 82, 69, 32] (b.where_.map printF) ++ (joinT [32, 71, 82, 79, 85, 80, 32, 66, 89, 32] (b.group.map printF) ++ (joinT [32, 79, 82, 68, 69, 82, 32, 66, 89, 32] (b.order.map ordT) ++ limT b)) := by
      by_cases hz : a.join = []
      · have oa := sa.on.2 hz
        have ob := sb.on.2 (hj ▸ hz)
        rw [oa, ob] at h6
        exact ⟨oa.trans ob.symm, h6⟩
      · have oa : a.on ≠ [] := fun e => by have := sa.on.1 hz; rw [e] at this; simp at this
        have ob : b.on ≠ [] := fun e => by have := sb.on.1 (hj ▸ hz); rw [e] at this; simp at this
        exact es_inj _ oa ob (ea (in_on a) ga.on) (eb (in_on b) gb.on) (nbw a 74 (by decide) (by decide) (by decide) (by decide)).tl (nbw b 74 (by decide) (by decide) (by decide) (by decide)).tl h6
    obtain ⟨hw, h7⟩ := opt_inj 87 _ wa wb (nbg a 87 (by decide) (by decide) (by decide)) (nbg b 87 (by decide) (by decide) (by decide)) hon.2
    obtain ⟨hgr, h8⟩ := opt_inj 71 _ (ea (in_group a) ga.group) (eb (in_group b) gb.group) (nbl a 71 (by decide) (by decide)) (nbl b 71 (by decide) (by decide)) h7
    have hor : a.order = b.order ∧ limT a = limT b := by
      by_cases oa : a.order = []
      · by_cases ob : b.order = []
        · rw [oa, ob] at h8; exact ⟨oa.trans ob.symm, h8⟩
        · exfalso
          rw [oa] at h8
          cases hb : b.order with
          | nil => exact ob hb
          | cons o l => rw [hb] at h8; exact (lim_nb (c := 79) (by decide) a).no h8
      · by_cases ob : b.order = []
        · exfalso
          rw [ob] at h8
          cases ha : a.order with
          | nil => exact oa ha
          | cons o l => rw [ha] at h8; exact (lim_nb (c := 79) (by decide) b).no h8.symm
        · exact ords_inj _ oa ob (fun o ho => ka.ord o ho) (fun o ho => kb.ord o ho) (lim_ot a) (lim_ot b) h8
    exact sm_all hk ht (z_cols (by omega)) (z_key (by omega)) (z_index (by omega)) (z_rows (by omega)) (z_sets (by omega)) hi hj hon.1 hw hgr hor.1 (lim_inj ka.limit kb.limit hor.2)
  · exact sm_all hk (z_table (by omega)) (z_cols (by omega)) (z_key (by omega)) (z_index (by omega)) (z_rows (by omega)) (z_sets (by omega)) (z_items (by omega)) (z_join (by omega)) (z_on (by omega)) (z_where (by omega)) (z_group (by omega)) (z_order (by omega)) (z_limit (by omega))
end Go.Proofs.YtodoejfkjimeaaaDoor

set_option linter.unusedSimpArgs false
set_option linter.unusedVariables false
set_option maxRecDepth 100000
namespace Go.Proofs.YtodoejfkjimeaaaDoor
open Go Go.RowKit Am
attribute [-go_sem] guardP_if guardK_if guardD_if COND_bool
attribute [local go_sem low] guardP_if guardK_if guardD_if COND_bool
end Go.Proofs.YtodoejfkjimeaaaDoor

set_option linter.unusedSimpArgs false
set_option linter.unusedVariables false
set_option maxRecDepth 100000
namespace Go.Proofs.YtodoejfkjimeaaaDoor
open Go Go.RowKit Am
attribute [-go_sem] guardP_if guardK_if guardD_if COND_bool
attribute [local go_sem low] guardP_if guardK_if guardD_if COND_bool
end Go.Proofs.YtodoejfkjimeaaaDoor

set_option linter.unusedSimpArgs false
set_option linter.unusedVariables false
set_option maxRecDepth 100000
namespace Go.Proofs.YtodoejfkjimeaaaDoor
open Go Go.RowKit Am
attribute [-go_sem] guardP_if guardK_if guardD_if COND_bool
attribute [local go_sem low] guardP_if guardK_if guardD_if COND_bool
end Go.Proofs.YtodoejfkjimeaaaDoor

set_option linter.unusedSimpArgs false
set_option linter.unusedVariables false
set_option maxRecDepth 100000
namespace Go.Proofs.YtodoejfkjimeaaaDoor
open Go Go.RowKit Am
attribute [-go_sem] guardP_if guardK_if guardD_if COND_bool
attribute [local go_sem low] guardP_if guardK_if guardD_if COND_bool
theorem or5 {b c : Bool} {o1 o3 : Option AV} {f2 f4 : AV → Option AV} {f5 : AV → AV → Option AV} {p1 p2 p3 p4 : AV} (h1 : o1 = some p1) (h2 : f2 p1 = some p2) (h3 : o3 = some p3) (h4 : f4 p3 = some p4) (h5 : f5 p2 p4 = some (.sc (.bool c))) (K : AV → Prop) (hK : K (.sc (.bool (b || c)))) :
    guardP (.sc (.bool b)) false o1 fun x1 => guardP (.sc (.bool b)) false (f2 x1) fun x2 => guardP (.sc (.bool b)) false o3 fun x3 => guardP (.sc (.bool b)) false (f4 x3) fun x4 => guardP (.sc (.bool b)) false (f5 x2 x4) fun x5 =>
      bindP (aPick (.sc (.bool b)) (.sc (.bool true)) x5) K := by
  cases b
  · simp only [guardP_on, h1, h2, h3, h4, h5, bindP_some, aPick_b, cond_false]; exact hK
  · simp only [guardP_t, bindP_some, aPick_b, cond_true]; exact hK
theorem or7 {b c : Bool} {o1 o4 : Option AV} {f2 f3 f5 f6 : AV → Option AV} {f7 : AV → AV → Option AV} {p1 p2 p3 p4 p5 p6 : AV} (h1 : o1 = some p1) (h2 : f2 p1 = some p2) (h3 : f3 p2 = some p3) (h4 : o4 = some p4) (h5 : f5 p4 = some p5) (h6 : f6 p5 = some p6) (h7 : f7 p3 p6 = some (.sc (.bool c))) (K : AV → Prop) (hK : K (.sc (.bool (b || c)))) :
    guardP (.sc (.bool b)) false o1 fun x1 => guardP (.sc (.bool b)) false (f2 x1) fun x2 => guardP (.sc (.bool b)) false (f3 x2) fun x3 => guardP (.sc (.bool b)) false o4 fun x4 => guardP (.sc (.bool b)) false (f5 x4) fun x5 => guardP (.sc (.bool b)) false (f6 x5) fun x6 => guardP (.sc (.bool b)) false (f7 x3 x6) fun x7 =>
      bindP (aPick (.sc (.bool b)) (.sc (.bool true)) x7) K := by
  cases b
  · simp only [guardP_on, h1, h2, h3, h4, h5, h6, h7, bindP_some, aPick_b, cond_false]; exact hK
  · simp only [guardP_t, bindP_some, aPick_b, cond_true]; exact hK
theorem apt0 (r r' : List Nat) : Apt (names []) r (names []) r' := by simp [Apt, names]
theorem eqs_C (x y : Cl) : aEqs [2, 0, 1] true (.ag (encC x)) (.ag (encC y)) = some (.sc (.bool (!eqB (x = y)))) := by
  obtain ⟨x0, x1, x2⟩ := x
  obtain ⟨y0, y1, y2⟩ := y
  have e : eqB (Cl.mk x0 x1 x2 = Cl.mk y0 y1 y2) = (decide (x0 = y0) && decide (x1 = y1) && decide (x2 = y2)) := by
    rw [Bool.eq_iff_iff, eqB_iff]; simp [and_assoc]
  rw [e]
  cases x2 <;> cases y2 <;> simp [aEqs, encC, eqK, bb, beqL, beqI] <;> (try rw [Bool.and_comm]) <;> rfl
theorem eqs_O (x y : Od) : aEqs [0, 1] true (.ag (encO x)) (.ag (encO y)) = some (.sc (.bool (!eqB (x = y)))) := by
  obtain ⟨x1, x2⟩ := x
  obtain ⟨y1, y2⟩ := y
  have e : eqB (Od.mk x1 x2 = Od.mk y1 y2) = (decide (x1 = y1) && decide (x2 = y2)) := by
    rw [Bool.eq_iff_iff, eqB_iff]; simp
  rw [e]
  cases x2 <;> cases y2 <;> simp [aEqs, encO, eqK, bb, beqI] <;> rfl
def scB (a b : Sm) : Bool := !decide (a.kind = b.kind) || !decide (a.table = b.table) || !decide (a.key = b.key) || !decide (a.index = b.index) || !decide (a.join = b.join) || !decide (a.limit = b.limit)
def lnB (a b : Sm) : Bool := !decide ((a.columns.length : Int) = b.columns.length) || !decide ((a.rows.length : Int) = b.rows.length) || !decide ((a.sets.length : Int) = b.sets.length) || !decide ((a.order.length : Int) = b.order.length)
theorem scB_ne {a b : Sm} (h : scB a b = true) : a ≠ b := by
  rintro rfl; simp [scB] at h
theorem lnB_ne {a b : Sm} (h : lnB a b = true) : a ≠ b := by
  rintro rfl; simp [lnB] at h
theorem lnB_eq {a b : Sm} (h : lnB a b = false) : a.columns.length = b.columns.length ∧ a.rows.length = b.rows.length ∧ a.sets.length = b.sets.length ∧ a.order.length = b.order.length := by
  simp [lnB] at h; omega
theorem sm_one {a b : Sm} (h : scB a b = false) (h1 : a.columns = b.columns) (h2 : a.rows = b.rows) (h3 : a.sets = b.sets) (h4 : a.order = b.order) (h5 : a.items = b.items) (h6 : a.on = b.on) (h7 : a.where_ = b.where_) (h8 : a.group = b.group) : a = b := by
  obtain ⟨a1, a2, a3, a4, a5, a6, a7, a8, a9, a10, a11, a12, a13, a14⟩ := a
  obtain ⟨b1, b2, b3, b4, b5, b6, b7, b8, b9, b10, b11, b12, b13, b14⟩ := b
  simp [scB] at h h1 h2 h3 h4 h5 h6 h7 h8
  simp_all
theorem bin_addI {i : Nat} {m : Nat} (h : (i : Int) < m) {σ : Hp} {rows : List (List AV)} (hb : bnd σ (.tr rows)) (hm : rows.length = m) : semBin .add (.sc (.int .i64 i)) (.sc (.int .i64 1)) = some (.sc (.int .i64 ((i + 1 : Nat) : Int))) := by
  have hb' : rows.length ≤ 4611686018427387904 := hb
  rw [bin_add, wrapI (by omega) (by omega)]; rfl
theorem sameL_con2 (l m : List Ep) : Con Tryd.prog 34 [.tr (l.map encE), .tr (m.map encE)] (.ret (.sc (.bool (sameL l m)))) := sameL_con l m (fun a _ b => same_con a b)
theorem eqB_not {p : Prop} (h : eqB p = false) : ¬ p := fun hp => by rw [eqB_t hp] at h; cases h
set_option maxHeartbeats 8000000 in
theorem sameStmt_con (a b : Sm) : Con Tryd.prog 22 [.ag (encSm a), .ag (encSm b)] (.ret (.sc (.bool (eqB (a = b))))) := by
  refine con_of (by_plain_SameStmt ?_)
  generalize hR : RC _ = R
  have HR := Lib.hid hR; clear hR
  rw [sh_plain_SameStmt]
  change bindS (some (.rf 0 14 0 0, [(0, some (Ob.c ⟨14, [encSm a], true, false⟩))])) _ _ _
  rw [bindS_some]
  change bindS (some (.rf 16 14 0 0, [(16, some (Ob.c ⟨14, [encSm b], true, false⟩))])) _ _ _
  rw [bindS_some]
  generalize hτ : applyW _ _ = τ
  have hA : τ 0 = some (.c ⟨14, [encSm a], true, false⟩) := by rw [← hτ]; simp only [applyW_cons, applyW_nil]; rw [upd_not (by omega)]; exact upd_is rfl
  have hB : τ 16 = some (.c ⟨14, [encSm b], true, false⟩) := by rw [← hτ]; simp only [applyW_cons, applyW_nil]; exact upd_is rfl
  clear hτ
  have no : a ≠ b → ∀ σ n, R (.ret (.sc (.bool false))) σ n := fun h σ n => by rw [← HR.out, eqB_f h]; exact RC_ret rfl rfl
  have NO := Lib.hid no; clear no
  rw [aFad_rf, bindP_some, ld_box hA rfl, bindP_some, aFad_rf, bindP_some, ld_box hB rfl, bindP_some, bin_neq, bindP_some]
  refine or5 rfl (ld_box hA rfl) rfl (ld_box hB rfl) (binS_neq _ _) _ ?_
  refine or5 rfl (ld_box hA rfl) rfl (ld_box hB rfl) (binS_neq _ _) _ ?_
  refine or5 rfl (ld_box hA rfl) rfl (ld_box hB rfl) (binS_neq _ _) _ ?_
  refine or5 rfl (ld_box hA rfl) rfl (ld_box hB rfl) (binS_neq _ _) _ ?_
  refine or5 rfl (ld_box hA rfl) rfl (ld_box hB rfl) (bin_neq _ _ _) _ ?_
  change COND (.sc (.bool (scB a b))) _ _
  cases hsc : scB a b with
  | true => rw [COND_true]; exact NO.out (scB_ne hsc) _ _
  | false =>
  rw [COND_false, aFad_rf, bindP_some, ld_box hA rfl, bindP_some, len_tr, bindP_some]
  intro _
  rw [aFad_rf, bindP_some, ld_box hB rfl, bindP_some, len_tr, bindP_some]
  intro _
  rw [bin_neq, bindP_some]
  refine or7 rfl (ld_box hA rfl) (len_tr _ _) rfl (ld_box hB rfl) (len_tr _ _) (bin_neq _ _ _) _ ?_
  refine or7 rfl (ld_box hA rfl) (len_tr _ _) rfl (ld_box hB rfl) (len_tr _ _) (bin_neq _ _ _) _ ?_
  refine or7 rfl (ld_box hA rfl) (len_tr _ _) rfl (ld_box hB rfl) (len_tr _ _) (bin_neq _ _ _) _ ?_
  change COND (.sc (.bool (lnB a b))) _ _
  cases hln : lnB a b with
  | true => rw [COND_true]; exact NO.out (lnB_ne hln) _ _
  | false =>
  rw [COND_false]
  obtain ⟨ln1, ln2, ln3, ln4⟩ := lnB_eq hln
  clear hln
  have a2 : aLd τ none (.rf 0 14 0 2) = some (.tr (a.columns.map encC)) := ld_box hA rfl
  have b2 : aLd τ none (.rf 16 14 0 2) = some (.tr (b.columns.map encC)) := ld_box hB rfl
  refine LOOP_list a.columns (fun i st => (∃ p q r, st = [p, q, r, .sc (.int .i64 i)]) ∧ a.columns.take i = b.columns.take i) ⟨⟨_, _, _, rfl⟩, rfl⟩ ?_ ?_
  · rintro i x K st n' hx hi hi' hn ⟨⟨p, q, r, rfl⟩, hal⟩ hK
    obtain ⟨y, hy⟩ : ∃ y, b.columns[i]? = some y := ⟨b.columns[i]'(by omega), List.getElem?_eq_getElem _⟩
    have ia : aIad 3 (.tr (a.columns.map encC)) (.sc (.int .i64 i)) = some (.fp (encC x)) := by rw [aIad_tr, if_pos (by omega), Int.toNat_natCast, List.getElem?_map, hx]; rfl
    have ib : aIad 3 (.tr (b.columns.map encC)) (.sc (.int .i64 i)) = some (.fp (encC y)) := by rw [aIad_tr, if_pos (by omega), Int.toNat_natCast, List.getElem?_map, hy]; rfl
    rw [lb_plain_SameStmt10]
    simp only [List.getD_cons_succ, List.getD_cons_zero, aFad_rf, Nat.zero_add, bindP_some, a2, b2, len_tr]
    intro hbn
    rw [bindP_ltI, COND_yes hi', ia, bindP_some, show aLd τ (some 3) (.fp (encC x)) = some (.ag (encC x)) from rfl, bindP_some, ib, bindP_some, show aLd τ (some 3) (.fp (encC y)) = some (.ag (encC y)) from rfl, bindP_some, eqs_C, bindP_some]
    refine ⟨apt0 _ _, apt0 _ _, apt0 _ _, apt0 _ _, fun n_ hn_ => ?_⟩
    cases hq : eqB (x = y) with
    | false => rw [Bool.not_false, COND_true]; exact NO.out (fun e => take_ne hx hy (eqB_not hq) (by rw [e])) _ _
    | true =>
      rw [Bool.not_true, COND_false, bin_addI hi' hbn (List.length_map _), bindP_some]
      exact hK _ _ (by omega) ⟨⟨_, _, _, rfl⟩, take_eq hx hy hal (eqB_iff.1 hq)⟩
  rintro K st n' hn ⟨⟨p, q, r, rfl⟩, hcols⟩
  rw [List.take_length, List.take_of_length_le (by omega)] at hcols
  rw [lb_plain_SameStmt10]
  simp only [List.getD_cons_succ, List.getD_cons_zero, aFad_rf, Nat.zero_add, bindP_some, a2, b2, len_tr]
  intro _
  rw [bindP_ltI, COND_no (Int.lt_irrefl _)]
  clear a2 b2
  have a5 : aLd τ none (.rf 0 14 0 5) = some (.tr (a.rows.map encRx)) := ld_box hA rfl
  have b5 : aLd τ none (.rf 16 14 0 5) = some (.tr (b.rows.map encRx)) := ld_box hB rfl
  refine LOOP_list a.rows (fun i st => (∃ p q r, st = [p, q, r, .sc (.int .i64 i)]) ∧ a.rows.take i = b.rows.take i) ⟨⟨_, _, _, rfl⟩, rfl⟩ ?_ ?_
  · rintro i x K st n' hx hi hi' hn ⟨⟨p, q, r, rfl⟩, hal⟩ hK
    obtain ⟨y, hy⟩ : ∃ y, b.rows[i]? = some y := ⟨b.rows[i]'(by omega), List.getElem?_eq_getElem _⟩
    have ia : aIad 1 (.tr (a.rows.map encRx)) (.sc (.int .i64 i)) = some (.fp [.tr (x.map encE)]) := by rw [aIad_tr, if_pos (by omega), Int.toNat_natCast, List.getElem?_map, hx]; rfl
    have ib : aIad 1 (.tr (b.rows.map encRx)) (.sc (.int .i64 i)) = some (.fp [.tr (y.map encE)]) := by rw [aIad_tr, if_pos (by omega), Int.toNat_natCast, List.getElem?_map, hy]; rfl
    have hC := sameL_con2 x y
    rw [sameL_eqB] at hC
    rw [lb_plain_SameStmt9]
    simp only [List.getD_cons_succ, List.getD_cons_zero, aFad_rf, Nat.zero_add, bindP_some, a5, b5, len_tr]
    intro hbn
    rw [bindP_ltI, COND_yes hi', ia, bindP_some, show aLd τ none (.fp [.tr (x.map encE)]) = some (.tr (x.map encE)) from rfl, bindP_some, ib, bindP_some, show aLd τ none (.fp [.tr (y.map encE)]) = some (.tr (y.map encE)) from rfl, bindP_some]
    refine callD_con0 hC rfl ?_
    rw [kd_plain_SameStmt1, onEnd_ret, aUn_not, bindP_some]
    refine ⟨apt0 _ _, apt0 _ _, apt0 _ _, apt0 _ _, fun n_ hn_ => ?_⟩
    cases hq : eqB (x = y) with
    | false => rw [Bool.not_false, COND_true]; exact NO.out (fun e => take_ne hx hy (eqB_not hq) (by rw [e])) _ _
    | true =>
      simp only [List.getD_cons_succ, List.getD_cons_zero, applyW_nil]
      rw [Bool.not_true, COND_false, bin_addI hi' hbn (List.length_map _), bindP_some]
      exact hK _ _ (by omega) ⟨⟨_, _, _, rfl⟩, take_eq hx hy hal (eqB_iff.1 hq)⟩
  rintro K st n' hn ⟨⟨p, q, r, rfl⟩, hrows⟩
  rw [List.take_length, List.take_of_length_le (by omega)] at hrows
  rw [lb_plain_SameStmt9]
  simp only [List.getD_cons_succ, List.getD_cons_zero, aFad_rf, Nat.zero_add, bindP_some, a5, b5, len_tr]
  intro _
  rw [bindP_ltI, COND_no (Int.lt_irrefl _)]
  clear a5 b5
  have a6 : aLd τ none (.rf 0 14 0 6) = some (.tr (a.sets.map encS)) := ld_box hA rfl
  have b6 : aLd τ none (.rf 16 14 0 6) = some (.tr (b.sets.map encS)) := ld_box hB rfl
  refine LOOP_list a.sets (fun i st => (∃ p q r, st = [p, q, r, .sc (.int .i64 i)]) ∧ a.sets.take i = b.sets.take i) ⟨⟨_, _, _, rfl⟩, rfl⟩ ?_ ?_
  · rintro i x K st n' hx hi hi' hn ⟨⟨p, q, r, rfl⟩, hal⟩ hK
    obtain ⟨y, hy⟩ : ∃ y, b.sets[i]? = some y := ⟨b.sets[i]'(by omega), List.getElem?_eq_getElem _⟩
    have ia : aIad 8 (.tr (a.sets.map encS)) (.sc (.int .i64 i)) = some (.fp (encS x)) := by rw [aIad_tr, if_pos (by omega), Int.toNat_natCast, List.getElem?_map, hx]; simp [encS_len]
    have ib : aIad 8 (.tr (b.sets.map encS)) (.sc (.int .i64 i)) = some (.fp (encS y)) := by rw [aIad_tr, if_pos (by omega), Int.toNat_natCast, List.getElem?_map, hy]; simp [encS_len]
    have f0 : ∀ z : Se, aFad 0 (.fp (encS z)) = some (.fp (encS z)) := fun z => by simp [aFad, encS_len]
    have f1 : ∀ z : Se, aFad 1 (.fp (encS z)) = some (.fp (encE z.ex)) := fun z => by simp [aFad, encS, encE_eq]
    have g0 : ∀ z : Se, aLd τ none (.fp (encS z)) = some (.s z.name) := fun z => by simp [aLd, encS, Am.part]
    have g1 : ∀ z : Se, aLd τ (some 7) (.fp (encE z.ex)) = some (.ag (encE z.ex)) := fun z => by simp [aLd, Am.part, encE_eq]
    have hC := same_con x.ex y.ex
    rw [sameF_eqB] at hC
    rw [lb_plain_SameStmt8]
    simp only [List.getD_cons_succ, List.getD_cons_zero, aFad_rf, Nat.zero_add, bindP_some, a6, b6, len_tr]
    intro hbn
    rw [bindP_ltI, COND_yes hi', ia, bindP_some, f0, bindP_some, g0, bindP_some, ib, bindP_some, f0, bindP_some, g0, bindP_some, binS_neq, bindP_some]
    by_cases hnm : x.name = y.name
    · rw [show (!decide (x.name = y.name)) = false by simp [hnm]]
      simp only [guardP_on, guardD_on, bindP_some, a6, b6, ia, ib, f1, g1]
      refine callD_con0 hC (by simp only [brwL_cons, brwL_nil, brw_ag, encE_brw, List.append_nil, Option.map_some]) ?_
      rw [kd_plain_SameStmt2, onEnd_ret]
      simp only [aUn_not, bindP_some, aPick_b, cond_false]
      refine ⟨apt0 _ _, apt0 _ _, apt0 _ _, apt0 _ _, apt0 _ _, apt0 _ _, apt0 _ _, apt0 _ _, fun n_ hn_ => ?_⟩
      cases hq : eqB (x.ex = y.ex) with
      | false => rw [Bool.not_false, COND_true]; exact NO.out (fun e => take_ne hx hy (fun e2 => eqB_not hq (by rw [e2])) (by rw [e])) _ _
      | true =>
        simp only [applyW_nil]
        rw [Bool.not_true, COND_false, bin_addI hi' hbn (List.length_map _), bindP_some]
        refine hK _ _ (by omega) ⟨⟨_, _, _, rfl⟩, take_eq hx hy hal ?_⟩
        obtain ⟨x1, x2⟩ := x
        obtain ⟨y1, y2⟩ := y
        have e2 := eqB_iff.1 hq
        simp only at hnm e2
        rw [hnm, e2]
    · rw [show (!decide (x.name = y.name)) = true by simp [hnm]]
      simp only [guardP_t, guardD_t, guardP_none, bindP_some, aPick_b, cond_true]
      refine ⟨apt0 _ _, apt0 _ _, apt0 _ _, apt0 _ _, apt0 _ _, apt0 _ _, apt0 _ _, apt0 _ _, fun n_ hn_ => ?_⟩
      rw [COND_true]; exact NO.out (fun e => take_ne hx hy (fun e2 => hnm (by rw [e2])) (by rw [e])) _ _
  rintro K st n' hn ⟨⟨p, q, r, rfl⟩, hsets⟩
  rw [List.take_length, List.take_of_length_le (by omega)] at hsets
  rw [lb_plain_SameStmt8]
  simp only [List.getD_cons_succ, List.getD_cons_zero, aFad_rf, Nat.zero_add, bindP_some, a6, b6, len_tr]
  intro _
  rw [bindP_ltI, COND_no (Int.lt_irrefl _)]
  clear a6 b6
  have a12 : aLd τ none (.rf 0 14 0 12) = some (.tr (a.order.map encO)) := ld_box hA rfl
  have b12 : aLd τ none (.rf 16 14 0 12) = some (.tr (b.order.map encO)) := ld_box hB rfl
  refine LOOP_list a.order (fun i st => (∃ p q r, st = [p, q, r, .sc (.int .i64 i)]) ∧ a.order.take i = b.order.take i) ⟨⟨_, _, _, rfl⟩, rfl⟩ ?_ ?_
  · rintro i x K st n' hx hi hi' hn ⟨⟨p, q, r, rfl⟩, hal⟩ hK
    obtain ⟨y, hy⟩ : ∃ y, b.order[i]? = some y := ⟨b.order[i]'(by omega), List.getElem?_eq_getElem _⟩
    have ia : aIad 2 (.tr (a.order.map encO)) (.sc (.int .i64 i)) = some (.fp (encO x)) := by rw [aIad_tr, if_pos (by omega), Int.toNat_natCast, List.getElem?_map, hx]; rfl
    have ib : aIad 2 (.tr (b.order.map encO)) (.sc (.int .i64 i)) = some (.fp (encO y)) := by rw [aIad_tr, if_pos (by omega), Int.toNat_natCast, List.getElem?_map, hy]; rfl
    rw [lb_plain_SameStmt7]
    simp only [List.getD_cons_succ, List.getD_cons_zero, aFad_rf, Nat.zero_add, bindP_some, a12, b12, len_tr]
    intro hbn
    rw [bindP_ltI, COND_yes hi', ia, bindP_some, show aLd τ (some 2) (.fp (encO x)) = some (.ag (encO x)) from rfl, bindP_some, ib, bindP_some, show aLd τ (some 2) (.fp (encO y)) = some (.ag (encO y)) from rfl, bindP_some, eqs_O, bindP_some]
    refine ⟨apt0 _ _, apt0 _ _, apt0 _ _, apt0 _ _, fun n_ hn_ => ?_⟩
    cases hq : eqB (x = y) with
    | false => rw [Bool.not_false, COND_true]; exact NO.out (fun e => take_ne hx hy (eqB_not hq) (by rw [e])) _ _
    | true =>
      rw [Bool.not_true, COND_false, bin_addI hi' hbn (List.length_map _), bindP_some]
      exact hK _ _ (by omega) ⟨⟨_, _, _, rfl⟩, take_eq hx hy hal (eqB_iff.1 hq)⟩
  rintro K st n' hn ⟨⟨p, q, r, rfl⟩, horder⟩
  rw [List.take_length, List.take_of_length_le (by omega)] at horder
  rw [lb_plain_SameStmt7]
  simp only [List.getD_cons_succ, List.getD_cons_zero, aFad_rf, Nat.zero_add, bindP_some, a12, b12, len_tr]
  intro _
  rw [bindP_ltI, COND_no (Int.lt_irrefl _)]
  clear a12 b12
  have a7 : aLd τ none (.rf 0 14 0 7) = some (.tr (a.items.map encE)) := ld_box hA rfl
  have b7 : aLd τ none (.rf 16 14 0 7) = some (.tr (b.items.map encE)) := ld_box hB rfl
  have a9 : aLd τ none (.rf 0 14 0 9) = some (.tr (a.on.map encE)) := ld_box hA rfl
  have b9 : aLd τ none (.rf 16 14 0 9) = some (.tr (b.on.map encE)) := ld_box hB rfl
  have a10 : aLd τ none (.rf 0 14 0 10) = some (.tr (a.where_.map encE)) := ld_box hA rfl
  have b10 : aLd τ none (.rf 16 14 0 10) = some (.tr (b.where_.map encE)) := ld_box hB rfl
  have a11 : aLd τ none (.rf 0 14 0 11) = some (.tr (a.group.map encE)) := ld_box hA rfl
  have b11 : aLd τ none (.rf 16 14 0 11) = some (.tr (b.group.map encE)) := ld_box hB rfl
  have C1 := sameL_con2 a.items b.items
  have C2 := sameL_con2 a.on b.on
  have C3 := sameL_con2 a.where_ b.where_
  have C4 := sameL_con2 a.group b.group
  rw [sameL_eqB] at C1 C2 C3 C4
  simp only [bindP_some, a7, b7]
  refine CALL_con0 C1 rfl ?_
  rw [kc_plain_SameStmt6, onEnd_ret]
  cases q1 : eqB (a.items = b.items) with
  | false =>
    simp only [guardP_f, guardK_f, aPick_b, bindP_some, cond_false]
    exact NO.out (fun e => eqB_not q1 (by rw [e])) _ _
  | true =>
  simp only [guardP_on, guardK_on, bindP_some, aFad_rf, Nat.zero_add, a9, b9]
  refine CALL_con0 C2 rfl ?_
  rw [kc_plain_SameStmt3, onEnd_ret]
  cases q2 : eqB (a.on = b.on) with
  | false =>
    simp only [guardP_f, guardK_f, aPick_b, bindP_some, cond_false, cond_true]
    exact NO.out (fun e => eqB_not q2 (by rw [e])) _ _
  | true =>
  simp only [guardP_on, guardK_on, aPick_b, cond_true, bindP_some, aFad_rf, Nat.zero_add, a10, b10]
  refine CALL_con0 C3 rfl ?_
  rw [kc_plain_SameStmt4, onEnd_ret]
  cases q3 : eqB (a.where_ = b.where_) with
  | false =>
    simp only [guardP_f, guardK_f, aPick_b, bindP_some, cond_false, cond_true]
    exact NO.out (fun e => eqB_not q3 (by rw [e])) _ _
  | true =>
  simp only [guardP_on, guardK_on, aPick_b, cond_true, bindP_some, aFad_rf, Nat.zero_add, a11, b11]
  refine CALL_con0 C4 rfl ?_
  rw [kc_plain_SameStmt5, onEnd_ret]
  cases q4 : eqB (a.group = b.group) with
  | false =>
    exact NO.out (fun e => eqB_not q4 (by rw [e])) _ _
  | true =>
    rw [← HR.out, eqB_t (sm_one hsc hcols hrows hsets horder (eqB_iff.1 q1) (eqB_iff.1 q2) (eqB_iff.1 q3) (eqB_iff.1 q4))]
    exact RC_ret rfl rfl
end Go.Proofs.YtodoejfkjimeaaaDoor

set_option linter.unusedSimpArgs false
set_option linter.unusedVariables false
set_option maxRecDepth 100000
namespace Go.Proofs.YtodoejfkjimeaaaDoor
open Go Go.RowKit Am
attribute [-go_sem] guardP_if guardK_if guardD_if COND_bool
attribute [local go_sem low] guardP_if guardK_if guardD_if COND_bool
theorem ps_ok {x : Sm} (h : checkF x = 0) : psF x = (stmtT x, 0) := if_pos h
theorem ps_no {x : Sm} (h : checkF x ≠ 0) : psF x = ([], checkF x) := if_neg h
theorem ld14' {σ : Hp} {i : Nat} {row : List AV} (h : σ i = some (.c ⟨14, [row], true, false⟩)) (hr : row.length = 14) : aLd σ (some 14) (.rf i 14 0 0) = some (.ag row) := by
  have ht : row.take 14 = row := List.take_of_length_le (by omega)
  simp [aLd, h, Am.part, hr, ht]
theorem print_eq (a b : Sm) (ga : SRg a) (gb : SRg b) (ha : checkF a = 0) (hb : checkF b = 0) : decide (stmtT a = stmtT b) = eqB (a = b) := by
  by_cases h : a = b
  · rw [eqB_t h, decide_eq_true (by rw [h])]
  · rw [eqB_f h, decide_eq_false (fun e => h (stmt_inj a b ga gb (checkF_ok a ha) (checkF_ok b hb) (checkF_sh a ha) (checkF_sh b hb) e))]
set_option maxHeartbeats 8000000 in
theorem syntaxPrints_con (a b : Sm) (ha : SBd a ∧ SRg a) (hb : SBd b ∧ SRg b) : Con Tryd.prog 6 [.ag (encSm a), .ag (encSm b)] (.ret (.sc (.bool true))) := by
  refine con_of (by_law04_SyntaxPrints ?_)
  generalize hR : RC _ = R
  have HR := Lib.hid hR; clear hR
  rw [sh_law04_SyntaxPrints]
  change bindS (some (.rf 0 14 0 0, [(0, some (.c ⟨14, [encSm a], true, false⟩))])) _ _ _
  rw [bindS_some]
  change bindS (some (.rf 16 14 0 0, [(16, some (.c ⟨14, [encSm b], true, false⟩))])) _ _ _
  rw [bindS_some]
  generalize hτ : applyW _ _ = τ
  have hA : τ 0 = some (.c ⟨14, [encSm a], true, false⟩) := by rw [← hτ]; simp only [applyW_cons, applyW_nil]; rw [upd_not (by omega)]; exact upd_is rfl
  have hB : τ 16 = some (.c ⟨14, [encSm b], true, false⟩) := by rw [← hτ]; simp only [applyW_cons, applyW_nil]; exact upd_is rfl
  clear hτ
  have br1 : ∀ (σ : Hp) (x : Sm), brwL σ 6 ([.ag (encSm x)] ++ []) = some ([.ag (encSm x)], []) := fun σ x => by simp only [List.append_nil, brwL_cons, brwL_nil, brw_ag, smBrw0, Option.map_some]
  have br2 : ∀ (σ : Hp) (x y : Sm), brwL σ 6 ([.ag (encSm x), .ag (encSm y)] ++ []) = some ([.ag (encSm x), .ag (encSm y)], []) := fun σ x y => by simp only [List.append_nil, brwL_cons, brwL_nil, brw_ag, smBrw0, Option.map_some]
  have HPa := print_con a ha.1 ha.2
  have HPb := print_con b hb.1 hb.2
  have fin : ∀ σ n, R (.ret (.sc (.bool true))) σ n := fun σ n => by rw [← HR.out]; exact RC_ret rfl rfl
  refine CALL_con0 alive4_con rfl ?_
  rw [kc_law04_SyntaxPrints6, onEnd_ret, aUn_not, bindP_some, Bool.not_true, COND_false, ld14' hA rfl, bindP_some]
  refine CALL_con0 HPa (br1 _ _) ?_
  generalize hpa : psF a = pa
  obtain ⟨ta, fa⟩ := pa
  rw [kc_law04_SyntaxPrints5, onEnd_ret, aExt_tp, show ([AV.s ta, .sc (.int .i64 fa)] : List AV)[0]? = some (.s ta) from rfl, bindP_some, aExt_tp, show ([AV.s ta, .sc (.int .i64 fa)] : List AV)[1]? = some (.sc (.int .i64 fa)) from rfl, bindP_some, ld14' hB rfl, bindP_some]
  refine CALL_con0 HPb (br1 _ _) ?_
  generalize hpb : psF b = pb
  obtain ⟨tb, fb⟩ := pb
  rw [kc_law04_SyntaxPrints4, onEnd_ret, aExt_tp, show ([AV.s tb, .sc (.int .i64 fb)] : List AV)[0]? = some (.s tb) from rfl, bindP_some, aExt_tp, show ([AV.s tb, .sc (.int .i64 fb)] : List AV)[1]? = some (.sc (.int .i64 fb)) from rfl, bindP_some]
  refine CALL_con0 (num4_con fa) rfl ?_
  rw [kc_law04_SyntaxPrints3, onEnd_ret, bin_neq, bindP_some]
  by_cases ca : checkF a = 0
  · rw [ps_ok ca] at hpa
    cases hpa
    rw [show (!decide ((0 : Int) = 0)) = false from rfl, guardP_on, bindP_some, guardK_on]
    refine CALL_con0 (num4_con fb) rfl ?_
    rw [kc_law04_SyntaxPrints1, onEnd_ret]
    simp only [guardP_on, bin_neq, bindP_some, aPick_b, cond_false]
    by_cases cb : checkF b = 0
    · rw [ps_ok cb] at hpb
      cases hpb
      rw [show (!decide ((0 : Int) = 0)) = false from rfl, COND_false, binS_eql, bindP_some, ld14' hA rfl, bindP_some, ld14' hB rfl, bindP_some]
      refine CALL_con0 (sameStmt_con a b) (br2 _ _ _) ?_
      rw [kc_law04_SyntaxPrints2, onEnd_ret, print_eq a b ha.2 hb.2 ca cb, aEqb_b, bindP_some]
      rw [show bb (if false = true then !(eqB (a = b) == eqB (a = b)) else (eqB (a = b) == eqB (a = b))) = .sc (.bool true) from by simp [bb]]
      exact fin _ _
    · rw [ps_no cb] at hpb
      cases hpb
      rw [show (!decide (checkF b = 0)) = true by simp [cb], COND_true, binS_eql, bindP_some]
      cases hd : decide (stmtT a = [])
      · simp only [guardP_on, bindP_some, binS_eql, decide_true, aPick_b, cond_false]
        exact fin _ _
      · simp only [guardP_t, guardP_none, bindP_some, aPick_b, cond_true]
        exact fin _ _
  · rw [ps_no ca] at hpa
    cases hpa
    rw [show (!decide (checkF a = 0)) = true by simp [ca]]
    simp only [guardP_t, guardK_t, guardP_none, aPick_b, cond_true, bindP_some, COND_true, binS_eql, decide_true]
    exact fin _ _
end Go.Proofs.YtodoejfkjimeaaaDoor
