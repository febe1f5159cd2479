/- Rules: what is wrong with any packet: told alike. -/
import Derived.Test.YtamhmfdbnlkmkaaKnQ10H0
import Derived.Test.YtamhmfdbnlkmkaaKnQ10F
import Derived.Test.YtamhmfdbnlkmkaaKnQ10G1
import Derived.Test.YtamhmfdbnlkmkaaKnQ10G2
import Derived.Test.YtamhmfdbnlkmkaaKnQ10D0
set_option linter.unusedVariables false
set_option linter.unusedSimpArgs false
set_option maxRecDepth 100000
namespace Go.Proofs.Ytamhmfdbnlkmkaa
open Go Go.RowKit


/-- What is told of an instruction. -/
structure TD where
  rt : Bool
  cl : Int
  w : Int
  wo : Bool
  p : Int
  po : Bool

def kdF (t : TD) : Int := cond t.wo 1 (cond t.po 2 0)

def ToldD (ρ : Env) (i : Nat) (t : TD) : Prop := Told (conc ρ (iA (qB i))) (.tc (.sc (.int .u8 (ρ.I (qB i))))) t.rt t.cl t.w t.wo t.p t.po ∧ (t.rt = true → ρ.B (qB i + 7) = true → ρ.I (qB i + 6) = 0)

theorem kd_1 {ρ : Env} {i : Nat} {t : TD} (h : ToldD ρ i t) : (kdF t == 1) = t.wo ∧ (kdF t == 2) = t.po ∧ 0 ≤ kdF t ∧ kdF t ≤ 2 := by
  have o := h.1.one
  obtain ⟨rt, cl, w, wo, p, po⟩ := t
  cases wo <;> cases po <;> first | exact absurd ⟨rfl, rfl⟩ o | (refine ⟨rfl, rfl, ?_, ?_⟩ <;> simp [kdF])

theorem qRows_ok {ρ ρ' : Env} {n : Nat} {r : Bool} {t : Nat → TD} {rtv : Nat → AV} (ht : ∀ i, i < n → ToldD ρ i (t i)) (hx : ∀ i, i < n → conc ρ' (qA r i) = conc ρ (iA (qB i))) (ho : ∀ i, i < n → ρ'.I (qB i) = ρ.I (qB i))
    (hrt : ∀ i, i < n → conc ρ' (rtv i) = blV (t i).rt) (hcl : ∀ i, i < n → ρ'.I (qB i + 12) = (t i).cl) (hw : ∀ i, i < n → ρ'.I (qB i + 13) = (t i).w) (hk : ∀ i, i < n → ρ'.I (qB i + 14) = kdF (t i)) (hp : ∀ i, i < n → ρ'.I (qB i + 15) = (t i).p) :
    ∀ q ∈ qRows r (List.range n) rtv, ∀ s ∈ q.2, CallsTo CA10 q.1 (concs ρ' s.1) (conc ρ' s.2) := by
  have eW : ∀ i, i < n → conc ρ' (qW i) = .tuple [inV .u8 (t i).w, blV (t i).wo] := fun i hi => by
    show AV.tuple [inV .u8 (ρ'.I (qB i + 13)), blV (ρ'.I (qB i + 14) == 1)] = _
    rw [hw i hi, hk i hi, (kd_1 (ht i hi)).1]
  have eP : ∀ i, i < n → conc ρ' (qP i) = .tuple [inV .u8 (t i).p, blV (t i).po] := fun i hi => by
    show AV.tuple [inV .u8 (ρ'.I (qB i + 15)), blV (ρ'.I (qB i + 14) == 2)] = _
    rw [hp i hi, hk i hi, (kd_1 (ht i hi)).2.1]
  have eC : ∀ i, i < n → conc ρ' (u8X (.var (qB i + 12))) = inV .u8 (t i).cl := fun i hi => by
    show inV .u8 (ρ'.I (qB i + 12)) = _
    rw [hcl i hi]
  have eO : ∀ i, i < n → conc ρ' (qOp i) = inV .u8 (ρ.I (qB i)) := fun i hi => by
    show inV .u8 (ρ'.I (qB i)) = _
    rw [ho i hi]
  intro q hq s hs
  simp only [qRows, List.mem_cons, List.not_mem_nil, or_false] at hq
  rcases hq with rfl | rfl | rfl | rfl | rfl | rfl | rfl | rfl <;> (obtain ⟨i, hi, rfl⟩ := List.mem_map.1 hs; have hi := List.mem_range.1 hi; have T := (ht i hi).1; simp only [concs, hx i hi, hrt i hi, eW i hi, eP i hi, eC i hi, eO i hi])
  · exact T.right
  · exact T.right'
  · exact T.class_
  · exact T.class'
  · exact T.writes
  · exact T.writes'
  · exact T.pred
  · exact T.pred'

theorem qL_conc {ρ ρ' : Env} {n : Nat} {r : Bool} (hx : ∀ i, i < n → conc ρ' (qA r i) = conc ρ (iA (qB i))) : conc ρ' (qL r n) = .tc (.sl 11 ((List.range n).map fun i => concR ρ (qC false (qB i)))) := by
  have key : ∀ i, i < n → concR ρ' (qC r (qB i)) = concR ρ (qC false (qB i)) := fun i hi => by
    have h := hx i hi
    have e : conc ρ (iA (qB i)) = .agg (tcs (concR ρ (qC false (qB i)))) := rfl
    rw [e] at h
    have e2 : conc ρ' (qA r i) = .agg (tcs (concR ρ' (qC r (qB i)))) := by
      simp only [qA, conc, concs_tcs]
    rw [e2] at h
    exact tcs_inj (by simpa using h)
  show AV.tc (.sl 11 (concE ρ' _)) = _
  rw [concE_map, List.map_map]
  congr 2
  exact List.map_congr_left fun i hi => key i (List.mem_range.1 hi)

theorem gP_conc {ρ ρ' : Env} {n : Nat} (hx : ∀ i, i < n → conc ρ' (qA false i) = conc ρ (iA (qB i))) (h0 : ρ'.B 710 = ρ.B 710) (h1 : ρ'.B 711 = ρ.B 711) (h2 : ρ'.B 712 = ρ.B 712) (h3 : ρ'.B 713 = ρ.B 713) : conc ρ' (gP n) = conc ρ (gP n) := by
  have e1 := qL_conc hx
  have e2 := qL_conc (ρ := ρ) (ρ' := ρ) (n := n) (r := false) (fun i hi => rfl)
  show AV.agg [conc ρ' (qL false n), blV (ρ'.B 710), blV (ρ'.B 711), blV (ρ'.B 712), blV (ρ'.B 713)] = AV.agg [conc ρ (qL false n), blV (ρ.B 710), blV (ρ.B 711), blV (ρ.B 712), blV (ρ.B 713)]
  rw [e1, e2, h0, h1, h2, h3]

theorem same_of {ρ : Env} (hF : ρ.F = iteF) {n : Nat} {l : Tabs} (hl : ∀ p ∈ l, ∀ q ∈ p.2, CallsTo CA10 p.1 (concs ρ q.1) (conc ρ q.2)) (h : gSame n l = true) : ∃ v, CallsTo CA10 10 [conc ρ (gP n)] (inV .i64 v) ∧ CallsTo CA10 11 [conc ρ (gP n)] (inV .i64 v) := by
  have hs : Summ ρ (ctxF CA10 l) := ctxF_ok (CA10_ok ρ) hl
  unfold gSame at h
  split at h
  · rename_i a b ha hb
    split at h
    · rename_i x y hx hy
      have c1 := (jfun_ok hF hs FactsOk.nil ha).of (C' := CA10) rfl rfl
      have c2 := (jfun_ok hF hs FactsOk.nil hb).of (C' := CA10) rfl rfl
      have k := knowJ_ok hF FactsOk.nil h
      rw [asSx_conc ρ hx] at c1
      rw [asSx_conc ρ hy] at c2
      have e : (den ρ x).i = (den ρ y).i := by simpa [den, cmpI] using k
      refine ⟨(den ρ x).i, c1, ?_⟩
      rw [e]
      exact c2
    · cases h
  · cases h

/-- The first that is not so. -/
theorem first_not {n : Nat} {g : Nat → Bool} : (∀ i, i < n → g i = true) ∨ ∃ j, j < n ∧ g j = false ∧ ∀ i, i < j → g i = true := by
  induction n with
  | zero => exact .inl fun i hi => by omega
  | succ n ih =>
    rcases ih with h | ⟨j, h1, h2, h3⟩
    · cases hg : g n with
      | true =>
        left
        intro i hi
        by_cases he : i = n
        · subst he; exact hg
        · exact h i (by omega)
      | false => exact .inr ⟨n, by omega, hg, h⟩
    · exact .inr ⟨j, by omega, h2, h3⟩

theorem gu_all {n j : Nat} (hn : 1 ≤ n ∧ n ≤ 4) (hj : j < n) : gSame n (gU n j) = true := by
  obtain ⟨h1, h2⟩ := hn
  match n, j, h1, h2, hj with
  | 1, 0, _, _, _ => exact gu_1_0
  | 2, 0, _, _, _ => exact gu_2_0
  | 2, 1, _, _, _ => exact gu_2_1
  | 3, 0, _, _, _ => exact gu_3_0
  | 3, 1, _, _, _ => exact gu_3_1
  | 3, 2, _, _, _ => exact gu_3_2
  | 4, 0, _, _, _ => exact gu_4_0
  | 4, 1, _, _, _ => exact gu_4_1
  | 4, 2, _, _, _ => exact gu_4_2
  | 4, 3, _, _, _ => exact gu_4_3
  | 1, k + 1, _, _, h => omega
  | 2, k + 2, _, _, h => omega
  | 3, k + 3, _, _, h => omega
  | 4, k + 4, _, _, h => omega
  | k + 5, _, _, h, _ => omega

theorem gs_all {n : Nat} (hn : 1 ≤ n ∧ n ≤ 4) : RunsCh (ctxF CA10 (gT n)) 24 [] 10 [gP n] (kG (gT n) n) := by
  obtain ⟨h1, h2⟩ := hn
  match n, h1, h2 with
  | 1, _, _ => exact gs_1
  | 2, _, _ => exact gs_2
  | 3, _, _ => exact gs_3
  | 4, _, _ => exact gs_4
  | k + 5, _, h => omega

theorem check_told {ρ : Env} {n : Nat} (hn : n ≤ 8) (h : ∀ i, i < n → FactsOk ρ (iF (qB i))) : ∃ v, CallsTo CA10 10 [conc ρ (gP n)] (inV .i64 v) ∧ CallsTo CA10 11 [conc ρ (gP n)] (inV .i64 v) := by
  have hT : ∀ i, ∃ t : TD, i < n → ToldD ρ i t := fun i => by
    by_cases hi : i < n
    · obtain ⟨rt, cl, w, wo, p, po, h1, h2⟩ := told_any (h i hi)
      exact ⟨⟨rt, cl, w, wo, p, po⟩, fun _ => ⟨h1, h2⟩⟩
    · exact ⟨⟨false, 0, 0, false, 0, false⟩, fun h => absurd h hi⟩
  obtain ⟨t, ht⟩ := Classical.axiomOfChoice hT
  have hmode : ∀ i, i < n → 0 ≤ ρ.I (qB i + 6) ∧ ρ.I (qB i + 6) ≤ 255 := fun i hi =>
    ⟨of_decide_eq_true (h i hi (.cmp .geq (.var (qB i + 6)) (.lit 0), true) (by simp [iF])), of_decide_eq_true (h i hi (.cmp .leq (.var (qB i + 6)) (.lit 255), true) (by simp [iF]))⟩
  -- the variables without what is told of two
  let cl : Nat → Int := fun i => (t i).cl
  let w : Nat → Int := fun i => (t i).w
  let kd : Nat → Int := fun i => kdF (t i)
  let p : Nat → Int := fun i => (t i).p
  let rt : Nat → Bool := fun i => (t i).rt
  have rows : ∀ (f : Nat → Bool) (c : Nat → Nat → Bool) (rtv : Nat → AV), (∀ i, i < n → conc (tE ρ cl w kd p rt f c false 0) (rtv i) = blV (t i).rt) →
      ∀ q ∈ qRows false (List.range n) rtv, ∀ s ∈ q.2, CallsTo CA10 q.1 (concs (tE ρ cl w kd p rt f c false 0) s.1) (conc (tE ρ cl w kd p rt f c false 0) s.2) := fun f c rtv hrt =>
    qRows_ok (t := t) ht (fun i hi => tE_A (by omega)) (fun i hi => tE_I (k := 0) (by omega) (by decide)) hrt (fun i hi => tE_cl (by omega)) (fun i hi => tE_w (by omega)) (fun i hi => tE_kd (by omega)) (fun i hi => tE_p (by omega))
  have packet : ∀ (f : Nat → Bool) (c : Nat → Nat → Bool), conc (tE ρ cl w kd p rt f c false 0) (gP n) = conc ρ (gP n) := fun f c => gP_conc (fun i hi => tE_A (by omega)) rfl rfl rfl rfl
  have rtVar : ∀ (f : Nat → Bool) (c : Nat → Nat → Bool) i, i < n → conc (tE ρ cl w kd p rt f c false 0) (boX (.var (730 + i))) = blV (t i).rt := fun f c i hi => by
    show blV (if 600 ≤ 730 + i ∧ 730 + i < 700 then _ else _) = _
    rw [if_neg (by omega), if_neg (by omega), if_neg (by omega), if_pos (by omega), show 730 + i - 730 = i by omega]
  by_cases hsmall : 1 ≤ n ∧ n ≤ 4
  case neg =>
    have hg : gSame n (qRows false (List.range n) fun i => boX (.var (730 + i))) = true := by
      have : n = 0 ∨ n = 5 ∨ n = 6 ∨ n = 7 ∨ n = 8 := by omega
      rcases this with rfl | rfl | rfl | rfl | rfl
      · exact gv_0
      · exact gv_5
      · exact gv_6
      · exact gv_7
      · exact gv_8
    have := same_of (ρ := tE ρ cl w kd p rt (fun _ => false) (fun _ _ => false) false 0) rfl (rows _ _ _ (rtVar _ _)) hg
    rwa [packet] at this
  rcases first_not (n := n) (g := rt) with hall | ⟨j, hj, hjf, hjt⟩
  case inr =>
    have := same_of (ρ := tE ρ cl w kd p rt (fun _ => false) (fun _ _ => false) false 0) rfl (rows _ _ (gRt j) fun i hi => by
      unfold gRt
      by_cases h1 : i < j
      · rw [decide_eq_true h1]
        show blV true = _
        rw [show (t i).rt = true from hjt i h1]
      · rw [decide_eq_false h1]
        by_cases h2 : i = j
        · subst h2
          rw [decide_eq_true rfl]
          show blV false = _
          rw [show (t i).rt = false from hjf]
        · rw [decide_eq_false h2]
          exact rtVar _ _ i hi) (gu_all hsmall hj)
    rwa [packet] at this
  -- all may be
  have hc : ∀ ij : Nat × Nat, ∃ b, ij.1 < n → ij.2 < n → CallsTo CA10 12 [conc ρ (iA (qB ij.1)), conc ρ (iA (qB ij.2))] (blV b) ∧ CallsTo CA10 13 [conc ρ (iA (qB ij.1)), conc ρ (iA (qB ij.2))] (blV b) := fun ij => by
    by_cases hi : ij.1 < n
    · by_cases hj : ij.2 < n
      · obtain ⟨b, hb⟩ := clash_told (ht _ hi).1 (ht _ hj).1 (hmode _ hi) (hmode _ hj)
        exact ⟨b, fun _ _ => ⟨hb.c1, hb.c2⟩⟩
      · exact ⟨false, fun _ h => absurd h hj⟩
    · exact ⟨false, fun h => absurd h hi⟩
  obtain ⟨c, hc⟩ := Classical.axiomOfChoice hc
  have hkd : FactsOk (tE ρ cl w kd p rt (fun _ => false) (fun i j => c (i, j)) false 0) (qFs n) := fun q hq => by
    simp only [qFs, List.mem_flatten, List.mem_map] at hq
    obtain ⟨l, ⟨i, hi, rfl⟩, hq⟩ := hq
    have hi := List.mem_range.1 hi
    have k := kd_1 (ht i hi)
    have e := tE_kd (ρ := ρ) (cl := cl) (w := w) (kd := kd) (p := p) (rt := rt) (f := fun _ => false) (c := fun i j => c (i, j)) (cab := false) (chk := 0) (i := i) (by omega)
    simp only [qF, qBnd, List.mem_cons, List.not_mem_nil, or_false] at hq
    rcases hq with rfl | rfl
    · exact decide_eq_true (by simp only [den]; rw [e]; exact k.2.2.1)
    · exact decide_eq_true (by simp only [den]; rw [e]; exact k.2.2.2)
  have hS : Summ (tE ρ cl w kd p rt (fun _ => false) (fun i j => c (i, j)) false 0) (fhX n) := ctxF_ok (CA10_ok _) (qRows_ok (t := t) ht (fun i hi => tE_At (by omega) ((ht i hi).2 (hall i hi))) (fun i hi => tE_I (k := 0) (by omega) (by decide)) (fun i hi => by
      show blV true = _
      rw [show (t i).rt = true from hall i hi]) (fun i hi => tE_cl (by omega)) (fun i hi => tE_w (by omega)) (fun i hi => tE_kd (by omega)) (fun i hi => tE_p (by omega)))
  obtain ⟨f, hf1, hf2⟩ := fed_told (ρ := tE ρ cl w kd p rt (fun _ => false) (fun i j => c (i, j)) false 0) rfl hsmall hS hkd
  have eL0 := qL_conc (ρ := ρ) (ρ' := tE ρ cl w kd p rt (fun _ => false) (fun i j => c (i, j)) false 0) (n := n) (r := true) (fun i hi => tE_At (by omega) ((ht i hi).2 (hall i hi)))
  have eL := qL_conc (ρ := ρ) (ρ' := tE ρ cl w kd p rt f (fun i j => c (i, j)) false 0) (n := n) (r := false) (fun i hi => tE_A (by omega))
  have eA : ∀ i, i < n → conc (tE ρ cl w kd p rt f (fun i j => c (i, j)) false 0) (qA false i) = conc ρ (iA (qB i)) := fun i hi => tE_A (by omega)
  have fVar : ∀ i, i < n → (tE ρ cl w kd p rt f (fun i j => c (i, j)) false 0).B (700 + i) = f i := fun i hi => by
    show (if 600 ≤ 700 + i ∧ 700 + i < 700 then _ else _) = _
    rw [if_neg (by omega), if_pos (by omega), show 700 + i - 700 = i by omega]
  have cVar : ∀ i j, i < 10 → j < 10 → (tE ρ cl w kd p rt f (fun i j => c (i, j)) false 0).B (600 + 10 * i + j) = c (i, j) := fun i j hi hj => by
    show (if 600 ≤ 600 + 10 * i + j ∧ 600 + 10 * i + j < 700 then _ else _) = _
    rw [if_pos (by omega), show (600 + 10 * i + j - 600) / 10 = i by omega, show (600 + 10 * i + j - 600) % 10 = j by omega]
  have gAllD : ∀ l : List Nat, (∀ i ∈ l, i < n) → (den (tE ρ cl w kd p rt f (fun i j => c (i, j)) false 0) (gAll l)).b = l.all f := fun l => by
    induction l with
    | nil => intro _; rfl
    | cons i l ih =>
      intro hl
      simp only [gAll, andX_den, ih fun x hx => hl x (List.mem_cons_of_mem _ hx), List.all_cons]
      simp only [den]
      rw [fVar i (hl i (List.mem_cons_self ..))]
  have clash : ∀ (g : FuncId), (∀ i j, i < n → j < n → CallsTo CA10 g [conc ρ (iA (qB i)), conc ρ (iA (qB j))] (blV (c (i, j)))) → ∀ s ∈ gCl n, CallsTo CA10 g (concs (tE ρ cl w kd p rt f (fun i j => c (i, j)) false 0) s.1) (conc (tE ρ cl w kd p rt f (fun i j => c (i, j)) false 0) s.2) := fun g hg s hs => by
    simp only [gCl, gPairs, List.mem_map, List.mem_flatten] at hs
    obtain ⟨q, ⟨l, ⟨j, hj, rfl⟩, hq⟩, rfl⟩ := hs
    obtain ⟨i, hi, rfl⟩ := List.mem_map.1 hq
    have hj := List.mem_range.1 hj
    have hi := List.mem_range.1 hi
    simp only [concs, eA i (by omega), eA j hj]
    show CallsTo CA10 g _ (blV ((tE ρ cl w kd p rt f (fun i j => c (i, j)) false 0).B (600 + 10 * i + j)))
    rw [cVar i j (by omega) (by omega)]
    exact hg i j (by omega) hj
  have hl : ∀ q ∈ gT n, ∀ s ∈ q.2, CallsTo CA10 q.1 (concs (tE ρ cl w kd p rt f (fun i j => c (i, j)) false 0) s.1) (conc (tE ρ cl w kd p rt f (fun i j => c (i, j)) false 0) s.2) := fun q hq s hs => by
    rcases List.mem_append.1 hq with hq | hq
    · exact rows f (fun i j => c (i, j)) rtT (fun i hi => by
        show blV true = _
        rw [show (t i).rt = true from hall i hi]) q hq s hs
    · simp only [List.mem_cons, List.not_mem_nil, or_false] at hq
      rcases hq with rfl | rfl | rfl | rfl
      · exact clash _ (fun i j hi hj => (hc (i, j) hi hj).1) s hs
      · exact clash _ (fun i j hi hj => (hc (i, j) hi hj).2) s hs
      · obtain ⟨i, hi, rfl⟩ := List.mem_map.1 hs
        have hi := List.mem_range.1 hi
        simp only [concs, eA i hi, eL]
        show CallsTo CA10 30 _ (blV ((tE ρ cl w kd p rt f (fun i j => c (i, j)) false 0).B (700 + i)))
        rw [fVar i hi]
        have := hf1 i hi
        rw [tE_At (by omega) ((ht i hi).2 (hall i hi)), eL0] at this
        exact this
      · simp only [List.mem_cons, List.not_mem_nil, or_false] at hs
        subst hs
        simp only [concs, eL]
        show CallsTo CA10 33 _ (blV (den (tE ρ cl w kd p rt f (fun i j => c (i, j)) false 0) (gAll (List.range n))).b)
        rw [gAllD _ fun i hi => List.mem_range.1 hi]
        rw [eL0] at hf2
        exact hf2
  have hSg : Summ (tE ρ cl w kd p rt f (fun i j => c (i, j)) false 0) (ctxF CA10 (gT n)) := ctxF_ok (CA10_ok _) hl
  obtain ⟨r, fs, c1, hf', hk⟩ := (gs_all hsmall).calls hSg FactsOk.nil
  unfold kG at hk
  split at hk
  · rename_i v
    have h2 : RunsIs (ctxF CA10 (gT n)) 24 fs 11 [gP n] (inV .i64 v) := .code codeRul_ok rfl hk
    have c2 := (h2.calls hSg hf').of (C' := CA10) rfl rfl
    have c1 : CallsTo CA10 10 (concs (tE ρ cl w kd p rt f (fun i j => c (i, j)) false 0) [gP n]) (inV .i64 v) := c1.of rfl rfl
    have eP := gP_conc (ρ := ρ) (ρ' := tE ρ cl w kd p rt f (fun i j => c (i, j)) false 0) (n := n) eA rfl rfl rfl rfl
    simp only [concs, eP] at c1 c2
    exact ⟨v, c1, c2⟩
  · cases hk

end Go.Proofs.Ytamhmfdbnlkmkaa
