/- Proved here: lemmas on an evaluator for the code of a Go program and its soundness over the model (part 3 of 3); conditions: as each theorem states. -/
import Derived.Test.YthjgofeekncogaaRexB
set_option linter.all false
set_option linter.unusedSimpArgs false
set_option linter.unusedVariables false

/-! A function: from its body to its summary. The end. -/
set_option linter.unusedSimpArgs false
set_option linter.unusedVariables false
namespace Go.Rex

theorem fitR_sound {R : Root} {t : Ty} {o : Ow} {y : t.den} (h : fitR R t o = some y) : R.t = t ∧ ∀ (w : World) (ok : Nat → Prop) (c : List Value) (b : List Nat), Rep w ok R.t R.o R.x c b → Rep w ok t o y c b := by
  unfold fitR at h
  split at h
  case isFalse => simp at h
  rename_i ht
  obtain ⟨Rv, Rt, Ro, Rx⟩ := R
  dsimp only at ht h ⊢
  subst ht
  cases hle : Ro.le o <;> rw [hle] at h
  · simp at h
  · simp only [cond_true, Option.some.injEq] at h
    subst h
    exact ⟨rfl, fun w ok c b hr => Rep.weaken _ _ _ _ _ _ hle hr⟩

theorem bnBack_sound {e : Env} {r : Nat} : ∀ (k m i : Nat), bnBack e r k m i = true → ∀ q, q < k → ∃ v, e.slot (i + q) = .rf r v (fp (m + q)) []
  | 0, m, i, h, q, hq => by omega
  | k + 1, m, i, h, q, hq => by
    simp only [bnBack, Bool.and_eq_true] at h
    obtain ⟨h1, h2⟩ := h
    cases q with
    | zero =>
      split at h1
      · rename_i r' v p ix hs
        simp only [Bool.and_eq_true, decide_eq_true_eq] at h1
        have e1 := nbeq.1 h1.1
        have e3 := nbeq.1 h1.2.2
        rw [lenL_eq] at e3
        have e3 := List.length_eq_zero_iff.1 e3
        rw [e1, h1.2.1, e3] at hs
        exact ⟨v, hs⟩
      · simp at h1
    | succ q =>
      obtain ⟨v, hv⟩ := bnBack_sound k (m + 1) (i + 1) h2 q (by omega)
      exact ⟨v, by rw [show i + (q + 1) = i + 1 + q by omega, show m + (q + 1) = m + 1 + q by omega]; exact hv⟩

theorem fromTo_mem : ∀ (k i q : Nat), q < k → i + q ∈ fromTo k i
  | 0, i, q, h => by omega
  | k + 1, i, q, h => by
    cases q with
    | zero => simp [fromTo]
    | succ q => simp only [fromTo, List.mem_cons]; right; rw [show i + (q + 1) = i + 1 + q by omega]; exact fromTo_mem k (i + 1) q (by omega)

section
variable {P : Program} {Γ : Ctx} {a : Act} {w : World}

theorem finOuts_sound {e : Env} {full : List Value} {O : Nat → Option Root} {C : Nat → Bool} {cs : Nat → List Value} {bs : Nat → List Nat} {rs : Roots} {its : List Item} (hx : HaveX Γ e.slot e.nt a w rs its O C cs bs) (hpv : Γ.pv = fun i => full.getD i undef) {w0 : World} {ok0 : Nat → Prop} :
    ∀ (ps : List PM) (x : dens ps) (cl : List (List Value)) (bl : List (List Nat)) (i j : Nat) (y : fins ps), psOK ps = true → ArgsRep w0 ok0 ps x cl bl → (∀ k ∈ entryPins ps i, k ∈ e.nt.pn) → (∀ k v, (argVals ps cl)[k]? = some v → full[i + k]? = some v) → finOuts e rs ps i j = some y →
    ∃ bf, (∀ okF : Nat → Prop, (∀ z, okOf Γ O bs z → okF z) → FinsRep w okF ps y cl bf) ∧ (∀ z ∈ bf.flatten, ∃ r R, 100000 + j ≤ r ∧ O r = some R ∧ C r = false ∧ z ∈ bs r) ∧ bf.flatten.Nodup
  | [], x, cl, bl, i, j, y, hp, h, hpin, hfull, hf => by
    cases cl with
    | cons _ _ => cases bl <;> cases h
    | nil => exact ⟨[], fun okF _ => trivial, by simp, by simp⟩
  | _ :: _, x, [], _, i, j, y, hp, h, hpin, hfull, hf => by cases h
  | _ :: _, x, _ :: _, [], i, j, y, hp, h, hpin, hfull, hf => by cases h
  | m :: ps, x, c :: cl, b :: bl, i, j, y, hp, h, hpin, hfull, hf => by
    have tm : ∀ k, k ∈ e.nt.pn → a.tmps.getD k undef = full.getD k undef := fun k hk => by rw [hx.st.pins k hk, hpv]
    have cons : ∀ (r : Nat) (R : Root) (bf : List (List Nat)), r = 100000 + j → O r = some R → C r = false → (∀ z ∈ bf.flatten, ∃ r R, 100000 + (j + 1) ≤ r ∧ O r = some R ∧ C r = false ∧ z ∈ bs r) → bf.flatten.Nodup →
        (∀ z ∈ (bs r :: bf).flatten, ∃ r R, 100000 + j ≤ r ∧ O r = some R ∧ C r = false ∧ z ∈ bs r) ∧ (bs r :: bf).flatten.Nodup := fun r R bf hr hO hC h1 h2 => by
      refine ⟨fun z hz => ?_, ?_⟩
      · simp only [List.flatten_cons, List.mem_append] at hz
        rcases hz with hz | hz
        · exact ⟨r, R, by omega, hO, hC, hz⟩
        · obtain ⟨r', R', g1, g2⟩ := h1 z hz
          exact ⟨r', R', by omega, g2⟩
      · simp only [List.flatten_cons]
        refine List.nodup_append.2 ⟨hx.st.p.nodup r R hO, h2, fun z hz y hy e => ?_⟩
        subst e
        obtain ⟨r', R', g1, g2, g3, g4⟩ := h1 z hy
        exact hx.st.p.sep r R r' R' hO g2 (by omega) z hz g4
    cases m with
    | rd t =>
      obtain ⟨bf, g1, g2, g3⟩ := finOuts_sound hx hpv ps x.2 cl bl (i + 1) (j + 1) y hp h.2 (fun k hk => hpin k hk) (fun k v hk => by have := hfull (k + 1) v (by simpa [argVals, pvals] using hk); rw [show i + 1 + k = i + (k + 1) by omega]; exact this) hf
      exact ⟨[] :: bf, fun okF hok => ⟨rfl, g1 okF hok⟩, fun z hz => by obtain ⟨r, R, q1, q2⟩ := g2 z (by simpa using hz); exact ⟨r, R, by omega, q2⟩, by simpa using g3⟩
    | mv t o =>
      obtain ⟨bf, g1, g2, g3⟩ := finOuts_sound hx hpv ps x.2 cl bl (i + 1) (j + 1) y hp h.2 (fun k hk => hpin k hk) (fun k v hk => by have := hfull (k + 1) v (by simpa [argVals, pvals] using hk); rw [show i + 1 + k = i + (k + 1) by omega]; exact this) hf
      exact ⟨[] :: bf, fun okF hok => ⟨rfl, g1 okF hok⟩, fun z hz => by obtain ⟨r, R, q1, q2⟩ := g2 z (by simpa using hz); exact ⟨r, R, by omega, q2⟩, by simpa using g3⟩
    | ln t o =>
      simp only [finOuts] at hf
      split at hf
      · rename_i r' v hs
        cases hr' : Nat.beq r' (Nat.add 100000 j) <;> rw [hr'] at hf
        · simp at hf
        have hr' := nbeq.1 hr'
        simp only [cond_true, Option.bind_eq_some_iff, Option.some.injEq] at hf
        obtain ⟨R, hR, y1, hy1, m, hm, rfl⟩ := hf
        obtain ⟨hC, hO⟩ := hx.look hR
        obtain ⟨ht, hfit⟩ := fitR_sound hy1
        obtain ⟨bf, g1, g2, g3⟩ := finOuts_sound hx hpv ps x.2 cl bl (i + 1) (j + 1) m hp h.2 (fun k hk => hpin k (by simp [entryPins, hk])) (fun k v hk => by have := hfull (k + 1) v (by simpa [argVals, pvals] using hk); rw [show i + 1 + k = i + (k + 1) by omega]; exact this) hm
        have hrep := hx.st.p.rep _ R hO
        have hcell : cs (Nat.add 100000 j) = c := by
          have hsl := hx.st.slots i
          change SlotOK _ _ _ _ (e.slot i) _ at hsl
          rw [hs, hr'] at hsl
          obtain ⟨_, hv⟩ := hsl R hO
          obtain ⟨L, hl, hv⟩ := hv (.inl rfl)
          simp only [locate, Option.some.injEq] at hl
          subst hl
          dsimp only at hv
          rw [tm i (hpin i (by simp [entryPins]))] at hv
          have h0 := hfull 0 (pack t c) (by simp [argVals, pvals])
          rw [List.getD_eq_getElem?_getD, show full[i]? = some (pack t c) from h0] at hv
          simp only [Option.getD_some] at hv
          have e1 := (Rep.cells h.1)
          have e2 := (Rep.cells hrep)
          rw [← hv] at e2
          rw [← e1, ← e2]
        obtain ⟨k1, k2⟩ := cons _ R bf rfl hO hC g2 g3
        refine ⟨bs (Nat.add 100000 j) :: bf, fun okF hok => ⟨?_, g1 okF hok⟩, k1, k2⟩
        have := hfit w okF _ _ (Rep.frame (fun z hz _ => ⟨hok z hz, rfl⟩) _ _ _ _ _ (fun _ _ => rfl) hrep)
        rwa [hcell] at this
      · simp at hf
    | bn t o =>
      simp only [psOK, Bool.and_eq_true] at hp
      simp only [finOuts] at hf
      cases hbk : bnBack e (Nat.add 100000 j) (chainLen t) 0 i <;> rw [hbk] at hf
      · simp at hf
      simp only [cond_true, Option.bind_eq_some_iff, Option.some.injEq] at hf
      obtain ⟨R, hR, y1, hy1, m, hm, rfl⟩ := hf
      obtain ⟨hC, hO⟩ := hx.look hR
      obtain ⟨ht, hfit⟩ := fitR_sound hy1
      have hl := Rep.len _ _ _ _ _ h.1
      have hpk := packs_chain t c hp.1 hl
      have hw : c.length = chainLen t := by rw [hl]; exact chain_width _ hp.1
      have hav : argVals (.bn t o :: ps) (c :: cl) = c ++ argVals ps cl := by simp only [argVals, pvals, hpk]
      rw [hav] at hfull
      obtain ⟨bf, g1, g2, g3⟩ := finOuts_sound hx hpv ps x.2 cl bl (i + chainLen t) (j + 1) m hp.2 h.2 (fun k hk => hpin k (by simp only [entryPins, appL_eq, List.mem_append]; exact .inr hk)) (fun k v hk => by
        have := hfull (chainLen t + k) v (by rw [List.getElem?_append_right (by omega), hw, show chainLen t + k - chainLen t = k by omega]; exact hk)
        rw [show i + chainLen t + k = i + (chainLen t + k) by omega]; exact this) hm
      have hrep := hx.st.p.rep _ R hO
      have hlr := Rep.len _ _ _ _ _ hrep
      have hwr : (cs (Nat.add 100000 j)).length = chainLen t := by rw [hlr, ht]; exact chain_width _ hp.1
      have hpr := packs_chain t (cs (Nat.add 100000 j)) hp.1 (by rw [hlr, ht])
      have hcell : cs (Nat.add 100000 j) = c := by
        refine List.ext_getElem (by rw [hwr, hw]) fun q q1 q2 => ?_
        obtain ⟨v, hs⟩ := bnBack_sound _ _ _ hbk q (by omega)
        rw [Nat.zero_add] at hs
        have hsl := hx.st.slots (i + q)
        change SlotOK _ _ _ _ (e.slot (i + q)) _ at hsl
        rw [hs] at hsl
        obtain ⟨_, hv⟩ := hsl R hO
        obtain ⟨L, hl, hv⟩ := hv (.inl (lrs_fp q))
        obtain ⟨k, k1, k2, k3⟩ := chain_off t q hp.1 (by omega)
        rw [ht] at hl
        obtain ⟨o', ho'⟩ := locate_fp (w := w) k1 R.o (cs (Nat.add 100000 j)) none []
        rw [ho'] at hl
        obtain rfl := Option.some.inj hl
        dsimp only at hv
        rw [tm (i + q) (hpin _ (by simp only [entryPins, appL_eq, List.mem_append]; exact .inl (fromTo_mem _ _ _ (by omega))))] at hv
        have h0 := hfull q c[q] (by rw [List.getElem?_append_left q2]; simp)
        rw [List.getD_eq_getElem?_getD, h0] at hv
        simp only [Option.getD_some] at hv
        have hpg := packs_get k1 (cs (Nat.add 100000 j))
        rw [hpr, ← hv, List.getElem?_eq_getElem q1] at hpg
        exact Option.some.inj hpg
      obtain ⟨k1, k2⟩ := cons _ R bf rfl hO hC g2 g3
      refine ⟨bs (Nat.add 100000 j) :: bf, fun okF hok => ⟨?_, g1 okF hok⟩, k1, k2⟩
      have := hfit w okF _ _ (Rep.frame (fun z hz _ => ⟨hok z hz, rfl⟩) _ _ _ _ _ (fun _ _ => rfl) hrep)
      rwa [hcell] at this

/-- A result's variable: a slot, or a cell. -/
inductive RV where
  | tm (s : Nat) | ce (s : Nat) (tid : TypeId)
def RV.var : RV → ResultVar
  | .tm s => .tmp s
  | .ce s u => .cell s u
/-- The cells that are results are loaded into slots behind all others. -/
def vload (ti : TI) (n0 : Nat) : List RV → Env → Option (List Nat × Env)
  | [], e => some ([], e)
  | .tm s :: l, e => bif Nat.blt s n0 then (vload ti n0 l e).bind fun q => some (s :: q.1, q.2) else none
  | .ce s t :: l, e => (lk ti t).bind fun row => match loadRes row (e.slot s) e.ow with
    | .ok c x _ => bif c && (Nat.blt s n0 && nott (memN e.nt.n e.nt.pn)) then (vload ti n0 l ⟨stt e.sl e.nt.n x, e.ow, ⟨Nat.succ e.nt.n, e.nt.pn⟩⟩).bind fun q => some (e.nt.n :: q.1, q.2) else none
    | _ => none

theorem load_sl {e : Env} {cs : Nat → List Value} {bs : Nat → List Nat} {t : TypeId} {row : TRow} (hrow : RowOK P t row) (hx : StX Γ e.ae a w cs bs) {s : Sl} {v : Value} (hs : SlotOK w (okOf Γ (lk e.ow) bs) (lk e.ow) cs s v) {c : Bool} {s' : Sl} {rs' : Roots} (h : loadRes row s e.ow = .ok c s' rs') :
    ∃ v', (do loadVar t (← asAddr v) : Sem Value).run P w = .ok v' w ∧ SlotOK w (okOf Γ (lk e.ow) bs) (lk e.ow) cs s' v' := by
  have run : ∀ b off c, v = .pointer (some ⟨b, off, none⟩) → At w b off c → c.length = row.ty.width → (do loadVar t (← asAddr v) : Sem Value).run P w = .ok (pack row.ty c) w := fun b off c h1 h2 h3 => by
    subst h1
    simp only [Sem.run_bind, asAddr, Sem.run_pure, Result.andThen_ok, run_loadVar hrow h2 h3]
  unfold loadRes at h
  split at h
  · rename_i t x'
    cases hk : Ty.eqb t row.ty <;> rw [hk] at h
    · cases h
    simp only [cond_true, OpRes.ok.injEq] at h
    obtain ⟨_, rfl, _⟩ := h
    obtain rfl := Ty.eqb_eq hk
    obtain ⟨b, off, c, h1, h2, h3, h4, h5⟩ := hs
    exact ⟨_, run b off c h1 h4 (Rep.len _ _ _ _ _ h5), ⟨c, h5, rfl⟩⟩
  · cases hq : placeOf s e.ow with
    | none => rw [hq] at h; cases h
    | some q =>
      rw [hq] at h
      simp only [OpRes.ofOpt] at h
      cases hk : Ty.eqb (getAt q.p q.ix q.R.foc).t row.ty <;> rw [hk] at h
      · cases h
      simp only [cond_true] at h
      have hk := Ty.eqb_eq hk
      obtain ⟨hlk, L, b, off, h1, h2, h3⟩ := placeOf_sound hx.p hs (fun r R h => h) hq
      obtain ⟨b1, hr⟩ := h1.rep
      have hrun := run b off L.cs h3 (h1.at_ b off h2) (by rw [Rep.len _ _ _ _ _ hr, hk])
      cases hpure : (getAt q.p q.ix q.R.foc).o.pure <;> rw [hpure] at h <;> simp only [cond_true, cond_false, OpRes.ok.injEq] at h
      · obtain ⟨_, rfl, _⟩ := h
        refine ⟨_, hrun, fun R' hR' => ?_⟩
        obtain rfl : q.R = R' := Option.some.inj (h1.root.symm.trans hR')
        exact ⟨Nat.le_refl _, fun _ => ⟨L, h1.loc, by rw [h1.t, hk]⟩⟩
      · obtain ⟨_, rfl, _⟩ := h
        have h4 := Rep.weaken _ _ _ _ _ _ (pure_le_no hpure) hr
        obtain rfl := Rep.no_bs _ _ _ _ h4
        exact ⟨_, hrun, ⟨L.cs, h4, by rw [hk]⟩⟩

theorem StX.push {e : Env} {cs : Nat → List Value} {bs : Nat → List Nat} (hx : StX Γ e.ae a w cs bs) (hpn : e.nt.n ∉ e.nt.pn) {s : Sl} {v : Value} (hs : SlotOK w (okOf Γ (lk e.ow) bs) (lk e.ow) cs s v) :
    StX Γ (⟨stt e.sl e.nt.n s, e.ow, ⟨Nat.succ e.nt.n, e.nt.pn⟩⟩ : Env).ae { a with tmps := a.tmps.push v } w cs bs := by
  have hn : a.tmps.size = e.nt.n := hx.size
  have get : ∀ i, (a.tmps.push v).getD i undef = if i = e.nt.n then v else a.tmps.getD i undef := fun i => by
    rw [Array.getD_eq_getD_getElem?, Array.getD_eq_getD_getElem?, Array.getElem?_push, hn]
    split <;> simp
  refine ⟨hx.p, fun i => ?_, by show (a.tmps.push v).size = Nat.succ e.nt.n; simp [hn], hx.defers, fun i hi => ?_⟩
  · show SlotOK _ _ _ _ ((⟨stt e.sl e.nt.n s, e.ow, ⟨Nat.succ e.nt.n, e.nt.pn⟩⟩ : Env).slot i) ((a.tmps.push v).getD i undef)
    rw [get]
    have h1 : (⟨stt e.sl e.nt.n s, e.ow, ⟨Nat.succ e.nt.n, e.nt.pn⟩⟩ : Env).slot i = upd e.slot e.nt.n s i := congrFun (slot_stt e e.nt.n s e.ow) i
    rw [h1]
    by_cases hi : i = e.nt.n
    · subst hi; rw [upd_same, if_pos rfl]; exact hs
    · rw [upd_other _ _ _ hi, if_neg hi]; exact hx.slots i
  · show (a.tmps.push v).getD i undef = _
    rw [get]
    by_cases hin : i = e.nt.n
    · exact absurd (hin ▸ hi) hpn
    · rw [if_neg hin]; exact hx.pins i hi

/-- How a result's variable is read. -/
def rvRead (tmps : Array Value) : ResultVar → Sem Value
  | .tmp t => pure (tmps.getD t undef)
  | .cell a t => do loadVar t (← asAddr (tmps.getD a undef))
theorem vload_sound {ti : TI} (hti : ∀ t row, lk ti t = some row → RowOK P t row) {n0 : Nat} {t0 : Array Value} : ∀ (l : List RV) (e : Env) (a : Act) (idx : List Nat) (e2 : Env), vload ti n0 l e = some (idx, e2) → St Γ e.ae a w → n0 ≤ a.tmps.size → (∀ i, i < n0 → a.tmps.getD i undef = t0.getD i undef) →
    ∃ a2 : Act, St Γ e2.ae a2 w ∧ a.tmps.size ≤ a2.tmps.size ∧ (∀ i, i < a.tmps.size → a2.tmps.getD i undef = a.tmps.getD i undef) ∧ ((l.map RV.var).mapM (rvRead t0)).run P w = .ok (idx.map fun i => a2.tmps.getD i undef) w
  | [], e, a, idx, e2, h, hst, _, _ => by
    simp only [vload, Option.some.injEq, Prod.mk.injEq] at h
    obtain ⟨rfl, rfl⟩ := h
    exact ⟨a, hst, Nat.le_refl _, fun _ _ => rfl, rfl⟩
  | .tm s :: l, e, a, idx, e2, h, hst, hn, ht => by
    simp only [vload] at h
    cases hb : Nat.blt s n0 <;> rw [hb] at h
    · simp at h
    simp only [cond_true, Option.bind_eq_some_iff, Option.some.injEq, Prod.mk.injEq] at h
    obtain ⟨q, hq, rfl, rfl⟩ := h
    have hs : s < n0 := by simpa using hb
    obtain ⟨a2, g1, g2, g3, g4⟩ := vload_sound hti l e a q.1 q.2 hq hst hn ht
    refine ⟨a2, g1, g2, g3, ?_⟩
    rw [List.map_cons, List.mapM_cons]
    simp only [RV.var, rvRead, Sem.run_bind, Sem.run_pure, Result.andThen_ok, g4, List.map_cons]
    rw [g3 s (by omega), ht s hs]
  | .ce s t :: l, e, a, idx, e2, h, hst, hn, ht => by
    simp only [vload, Option.bind_eq_some_iff] at h
    obtain ⟨row, hrow, h⟩ := h
    split at h
    · rename_i c x rs' hl
      cases hb : (c && (Nat.blt s n0 && nott (memN e.nt.n e.nt.pn))) <;> rw [hb] at h
      · simp at h
      simp only [cond_true, Option.bind_eq_some_iff, Option.some.injEq, Prod.mk.injEq] at h
      obtain ⟨q, hq, rfl, rfl⟩ := h
      simp only [Bool.and_eq_true] at hb
      have hs : s < n0 := by simpa using hb.2.1
      obtain ⟨cs, bs, hx⟩ := hst.x
      have hsl : SlotOK w (okOf Γ (lk e.ow) bs) (lk e.ow) cs (e.slot s) (a.tmps.getD s undef) := hx.slots s
      obtain ⟨v', r1, r2⟩ := load_sl (hti _ _ hrow) hx hsl hl
      have hx2 := hx.push (memN_false (nott_eq hb.2.2)) r2
      have hsz : a.tmps.size = e.nt.n := hx.size
      have get : ∀ i, (a.tmps.push v').getD i undef = if i = a.tmps.size then v' else a.tmps.getD i undef := fun i => by
        rw [Array.getD_eq_getD_getElem?, Array.getD_eq_getD_getElem?, Array.getElem?_push]
        split <;> simp
      obtain ⟨a2, g1, g2, g3, g4⟩ := vload_sound (t0 := t0) hti l _ { a with tmps := a.tmps.push v' } q.1 q.2 hq hx2.st (by simp only [Array.size_push]; omega) (fun i hi => by
        show (a.tmps.push v').getD i undef = _
        rw [get, if_neg (by omega)]; exact ht i hi)
      simp only [Array.size_push] at g2 g3
      refine ⟨a2, g1, by omega, fun i hi => ?_, ?_⟩
      · have := g3 i (by omega)
        rw [this]
        show (a.tmps.push v').getD i undef = _
        rw [get, if_neg (by omega)]
      · rw [List.map_cons, List.mapM_cons]
        have hv : a2.tmps.getD e.nt.n undef = v' := by
          rw [g3 e.nt.n (by omega)]
          show (a.tmps.push v').getD e.nt.n undef = _
          rw [get, if_pos hsz.symm]
        have hr : (rvRead t0 (RV.var (.ce s t))).run P w = .ok v' w := by
          simp only [RV.var, rvRead]
          rw [← ht s hs]; exact r1
        simp only [Sem.run_bind, hr, Result.andThen_ok, g4, Sem.run_pure, List.map_cons, hv]
    · simp at h

theorem results_all {fn : Func} {rts : List RV} (h : fn.results = (rts.map RV.var).toArray) {tmps : Array Value} {vs : List Value} (hvs : ((rts.map RV.var).mapM (rvRead tmps)).run P w = .ok vs w) (hlen : vs.length = rts.length) :
    ∃ v, (results fn tmps).run P w = .ok v w ∧ (rts.length = 1 → [v] = vs) ∧ (rts.length ≠ 1 → v = .tuple vs.toArray) := by
  have key : ∀ (g : ResultVar → Sem Value), (∀ x, g x = rvRead tmps x) → ((rts.map RV.var).mapM g).run P w = .ok vs w := fun g hg => by rw [show g = rvRead tmps from funext hg]; exact hvs
  have run : (results fn tmps).run P w = .ok (if h : vs.toArray.size = 1 then vs.toArray[0] else .tuple vs.toArray) w := by
    unfold results
    rw [h]
    rw [Array.mapM_eq_mapM_toList]
    simp only [Sem.run_bind, Sem.run_pure, map_eq_pure_bind, bind_assoc, pure_bind]
    rw [key _ (fun x => by cases x <;> rfl)]
    simp only [Result.andThen_ok, Sem.run_pure]
  refine ⟨_, run, fun h1 => ?_, fun h1 => ?_⟩
  · match vs, hlen.trans h1 with
    | [t], _ => simp
  · rw [dif_neg (by simpa [hlen] using h1)]

def subL : List Nat → List Nat → Bool
  | [], _ => true
  | i :: l, b => memN i b && subL l b
theorem subL_mem : ∀ {l b : List Nat}, subL l b = true → ∀ i ∈ l, i ∈ b
  | [], b, _, i, hi => by simp at hi
  | j :: l, b, h, i, hi => by
    simp only [subL, Bool.and_eq_true] at h
    rcases List.mem_cons.1 hi with rfl | hi
    · exact memN_true h.1
    · exact subL_mem h.2 i hi
/-- How the end of a body is told. -/
def stdK (G : Cfg) (s : Summ) (rts : List RV) (mk : s.rt.den → fins s.ps → s.σ) (ex : Ex) (e : Env) : Option s.σ :=
  match ex with
  | .exit _ => none
  | _ => (vload G.ti e.nt.n rts e).bind fun q => bif subL (entryPins s.ps 0) q.2.nt.pn then (resVal s.nres s.rt s.ro (mapL q.2.slot q.1) q.2.ow).bind fun g => (finOuts q.2 g.2 s.ps 0 0).bind fun z => some (mk g.1 z) else none

/-- A function's summary, of its own code. -/
def SummC (P : Program) (f : FuncId) (s : Summ) : Prop := (∀ args w, (callFunc f args).run P w = .ok (.enter f args) w) ∧
  ∀ (w : World) (ok : Nat → Prop) (x : dens s.ps) (cl : List (List Value)) (bl : List (List Nat)) (y : s.σ), ArgsRep w ok s.ps x cl bl → bl.flatten.Nodup → (∀ b ∈ bl.flatten, ¬ ok b) → s.fn x = some y →
    Calls P f (argVals s.ps cl).toArray w (fun e w' => match e with | .returned v => Ret s ⟨w, ok, bl.flatten, fun _ => undef⟩ cl y v w' | _ => False)
theorem SummC.ok {f : FuncId} {s : Summ} (h : SummC P f s) : SummOK P f s := fun w ok x cl bl y h1 h2 h3 h4 => .inl ⟨h.1 _ _, h.2 w ok x cl bl y h1 h2 h3 h4⟩

theorem summ_c {G : Cfg} (hG : CfgOK P G) {f : FuncId} {fn : Func} {body : Code} (hf : P.funcs[f]? = some fn) (hname : (fn.name == "runtime.NumGoroutine") = false) (hb : fn.body = some body) {Ls : Loops} (hL : LsOK P Ls body 0) {rts : List RV}
    (hres : fn.results = (rts.map RV.var).toArray) (s : Summ) (hps : psOK s.ps = true) (har : arity s.ps ≤ fn.ntmps) (hnr : s.nres = rts.length) (mk : s.rt.den → fins s.ps → s.σ) (hmk : ∀ p q, s.res (mk p q) = p ∧ s.fin (mk p q) = q)
    (hfn : ∀ x, s.fn x = ev G Ls body 0 (entry s.ps x fn.ntmps) (stdK G s rts mk)) : SummC P f s := by
  refine ⟨fun args w => by
    have : ¬ fn.name = "runtime.NumGoroutine" := by simpa using hname
    simp [callFunc, hf, this, hb], ?_⟩
  intro w ok x cl bl y hargs hn hd hy
  rw [hfn] at hy
  obtain ⟨ex, e, hK, hgo⟩ := ev_sound hG body 0 hL _ _ _ _ hy
  refine calls_of_wp hf hb ?_
  have hst := entry_st (nt := fn.ntmps) hps har hargs hn hd
  refine hgo _ _ w _ hst fun a' w' hst' => ?_
  have main : ((vload G.ti e.nt.n rts e).bind fun q => bif subL (entryPins s.ps 0) q.2.nt.pn then (resVal s.nres s.rt s.ro (mapL q.2.slot q.1) q.2.ow).bind fun g => (finOuts q.2 g.2 s.ps 0 0).bind fun z => some (mk g.1 z) else none) = some y →
      a'.defers = [] ∧ ∃ v, (results fn a'.tmps).run P w' = .ok v w' ∧ Ret s ⟨w, ok, bl.flatten, fun _ => undef⟩ cl y v w' := fun hK => by
    simp only [Option.bind_eq_some_iff] at hK
    obtain ⟨⟨idx, e2⟩, hvl, hK⟩ := hK
    dsimp only at hK
    cases hsub : subL (entryPins s.ps 0) e2.nt.pn <;> rw [hsub] at hK
    · simp at hK
    simp only [cond_true, Option.bind_eq_some_iff, Option.some.injEq] at hK
    obtain ⟨⟨yr, rs1⟩, hv, yf, hfo, rfl⟩ := hK
    have hsz : a'.tmps.size = e.nt.n := hst'.size
    obtain ⟨a2, hst2, _, _, hvs⟩ := vload_sound (P := P) hG.rows (t0 := a'.tmps) rts e a' idx e2 hvl hst' (by omega) (fun _ _ => rfl)
    have hidx : idx.length = rts.length := by
      have : ∀ (l : List RV) (e : Env) (n0 : Nat) (idx : List Nat) (e2 : Env), vload G.ti n0 l e = some (idx, e2) → idx.length = l.length := fun l => by
        induction l with
        | nil => intro e n0 idx e2 h; simp only [vload, Option.some.injEq, Prod.mk.injEq] at h; rw [← h.1]; rfl
        | cons r l ih =>
          intro e n0 idx e2 h
          cases r with
          | tm s =>
            simp only [vload] at h
            cases hb : Nat.blt s n0 <;> rw [hb] at h
            · simp at h
            simp only [cond_true, Option.bind_eq_some_iff, Option.some.injEq, Prod.mk.injEq] at h
            obtain ⟨q, hq, rfl, rfl⟩ := h
            simp [ih e n0 q.1 q.2 hq]
          | ce s t =>
            simp only [vload, Option.bind_eq_some_iff] at h
            obtain ⟨row, hrow, h⟩ := h
            split at h
            · rename_i c x rs' hl
              cases hb : (c && (Nat.blt s n0 && nott (memN e.nt.n e.nt.pn))) <;> rw [hb] at h
              · simp at h
              simp only [cond_true, Option.bind_eq_some_iff, Option.some.injEq, Prod.mk.injEq] at h
              obtain ⟨q, hq, rfl, rfl⟩ := h
              simp [ih _ n0 q.1 q.2 hq]
            · simp at h
      exact this rts e _ idx e2 hvl
    obtain ⟨v, hv1, hv2, hv3⟩ := results_all hres hvs (by simp [hidx])
    refine ⟨hst'.defers, v, hv1, ?_⟩
    obtain ⟨O0, C0, cs0, bs0, hh, rfl⟩ := Have.start hst2
    obtain ⟨O, C, cs, bs, its, c, b, hx, hbs, hrep, hn1, hn2⟩ := resVal_sound (vs := idx.map fun t => a2.tmps.getD t undef) hh (fun O C cs bs rs items hh => by
      have : ∀ l : List Nat, SOKs w' (okOf _ O bs) O cs (mapL e2.slot l) (l.map fun t => a2.tmps.getD t undef) := fun l => by
        induction l with
        | nil => trivial
        | cons t l ih => exact ⟨hh.st.slots t, ih⟩
      exact this idx) hv
    obtain ⟨bf, hfin, hbf, hbn⟩ := finOuts_sound hx rfl s.ps x cl bl 0 0 yf hps hargs (fun k hk => subL_mem hsub k hk) (fun k v hk => by simpa using hk) hfo
    obtain ⟨m1, m2⟩ := hmk yr yf
    have hbn' : b.Nodup := hbs.nodup hx.nodup
    have own : ∀ z ∈ blks its, z ∉ bf.flatten := fun z hz hz' => by
      obtain ⟨k, R, g1, g2, g3⟩ := hx.own z hz
      obtain ⟨r, R', _, q1, q2, q3⟩ := hbf z hz'
      exact hx.st.p.sep k R r R' g2 q1 (fun e => by rw [e, q2] at g1; simp at g1) z g3 q3
    have new : ∀ z ∈ blks its, (⟨w, ok, bl.flatten, fun _ => undef⟩ : Ctx).new z := fun z hz => by
      obtain ⟨k, R, g1, g2, g3⟩ := hx.own z hz
      exact hx.st.p.own k R g2 z g3
    have hokF : ∀ z, okOf ⟨w, ok, bl.flatten, fun i => (argVals s.ps cl).getD i undef⟩ O bs z → okRet ⟨w, ok, bl.flatten, fun _ => undef⟩ (b ++ bf.flatten) z := fun z hz => ⟨hz.1, fun hm => by
      rcases List.mem_append.1 hm with hm | hm
      · obtain ⟨k, R, g1, g2, g3⟩ := hx.own z (hbs.subset hm)
        exact hz.2 k R g2 g3
      · obtain ⟨r, R', _, q1, q2, q3⟩ := hbf z hm
        exact hz.2 r R' q1 q3⟩
    refine ⟨⟨hx.st.p.ext.os, hx.st.p.ext.tape, hx.st.p.ext.output, hx.st.p.ext.size, hx.st.p.ext.same⟩, c, b, bf, ?_, ?_, ?_, ?_, ?_⟩
    · rw [m2]; exact hfin _ hokF
    · rw [m1]
      refine hrep _ hokF fun z hz => ?_
      by_cases hzb : z ∈ b
      · exact .inl hzb
      · exact .inr ⟨.inr (new z hz), fun hm => by
          rcases List.mem_append.1 hm with hm | hm
          · exact hzb hm
          · exact own z hz hm⟩
    · exact List.nodup_append.2 ⟨hbn', hbn, fun z hz y hy e => own z (hbs.subset hz) (e ▸ hy)⟩
    · intro z hz
      rcases List.mem_append.1 hz with hz | hz
      · exact new z (hbs.subset hz)
      · obtain ⟨r, R', _, q1, q2, q3⟩ := hbf z hz
        exact hx.st.p.own r R' q1 z q3
    · by_cases h1 : s.nres = 1
      · have e1 := hv2 (by omega)
        rw [hn1 h1] at e1
        rw [h1]
        show v = pack s.rt c
        simpa using e1
      · have e1 := hv3 (by omega)
        rw [hn2 h1] at e1
        cases hk : s.nres with
        | zero => trivial
        | succ k => cases k with
          | zero => exact absurd hk h1
          | succ k => exact e1
  cases ex with
  | exit i => simp [stdK] at hK
  | normal => exact main hK
  | ret => exact main hK
end
end Go.Rex

/-! Loops: what is known at a loop's head and behind it. -/
set_option linter.unusedSimpArgs false
set_option linter.unusedVariables false
namespace Go.Rex

/-- What a slot or a root is at a place where ways meet. -/
inductive It where
  | dt (s : Nat) (t : Ty)
  | own (s ρ : Nat) (p : List Step) (t : Ty) (o : Ow)
  | hid (ρ : Nat) (t : Ty) (o : Ow)
  | ref (s ρ : Nat) (p : List Step)
  | cl (s f : Nat) (caps : List Nat)

@[reducible] def idens : List It → Type
  | [] => Unit
  | .dt _ t :: l => t.den × idens l
  | .own _ _ _ t _ :: l => t.den × idens l
  | .hid _ t _ :: l => t.den × idens l
  | .ref _ _ _ :: l => idens l
  | .cl _ _ _ :: l => idens l
def encSl : (l : List It) → idens l → List (Nat × Sl)
  | [], _ => []
  | .dt s t :: l, x => (s, .dt t x.1) :: encSl l x.2
  | .own s ρ p _ _ :: l, x => (s, .rf ρ 0 p []) :: encSl l x.2
  | .hid _ _ _ :: l, x => encSl l x.2
  | .ref s ρ p :: l, x => (s, .rf ρ 0 p []) :: encSl l x
  | .cl s f caps :: l, x => (s, .cl f caps) :: encSl l x
def encRt : (l : List It) → idens l → Roots
  | [], _ => []
  | .dt _ _ :: l, x => encRt l x.2
  | .own _ ρ _ t o :: l, x => (ρ, ⟨0, t, o, x.1⟩) :: encRt l x.2
  | .hid ρ t o :: l, x => (ρ, ⟨0, t, o, x.1⟩) :: encRt l x.2
  | .ref _ _ _ :: l, x => encRt l x
  | .cl _ _ _ :: l, x => encRt l x
def enc (nt : Nt) (l : List It) (x : idens l) : Env := ⟨encSl l x, encRt l x, nt⟩

def stepEqb : Step → Step → Bool
  | .l, .l => true
  | .r, .r => true
  | .el, .el => true
  | .dr, .dr => true
  | .cp, .cp => true
  | _, _ => false
def stepsEqb : List Step → List Step → Bool
  | [], [] => true
  | s :: p, t :: q => stepEqb s t && stepsEqb p q
  | _, _ => false
theorem stepsEqb_eq : ∀ {p q : List Step}, stepsEqb p q = true → p = q
  | [], [], _ => rfl
  | [], _ :: _, h => by simp [stepsEqb] at h
  | _ :: _, [], h => by simp [stepsEqb] at h
  | s :: p, t :: q, h => by
    simp only [stepsEqb, Bool.and_eq_true] at h
    have := stepsEqb_eq h.2
    subst this
    cases s <;> cases t <;> simp_all [stepEqb]

abbrev RMap := List (Nat × Option Nat)
/-- Which root is which. -/
def fitM (e : Env) : List It → Option RMap
  | [] => some []
  | .own s ρ p _ _ :: l => (match e.slot s with
      | .rf r _ q [] => bif stepsEqb q p && lrs p then some (some r) else none
      | .nilS => match p with
        | [] => some none
        | _ => none
      | _ => none).bind fun r => (fitM e l).bind fun m => some ((ρ, r) :: m)
  | .hid ρ _ _ :: l => (fitM e l).bind fun m => some ((ρ, some ρ) :: m)
  | .dt _ _ :: l => fitM e l
  | .ref _ _ _ :: l => fitM e l
  | .cl _ _ _ :: l => fitM e l
def olds : RMap → List Nat
  | [] => []
  | (_, some r) :: m => r :: olds m
  | (_, none) :: m => olds m
def news : RMap → List Nat
  | [] => []
  | (ρ, _) :: m => ρ :: news m
def isOld (M : RMap) (ρ r : Nat) : Bool := match lk M ρ with
  | some (some r') => Nat.beq r' r
  | _ => false
def allOld (M : RMap) : List Nat → List Nat → Bool
  | [], [] => true
  | ρ :: l, r :: k => isOld M ρ r && allOld M l k
  | _, _ => false
def rootX (M : RMap) (e : Env) (ρ : Nat) (t : Ty) (o : Ow) : Option t.den := match lk M ρ with
  | some (some r) => (lk e.ow r).bind fun R => fitR R t o
  | some none => match t, o with
    | .sl _, .sl _ => some []
    | _, _ => none
  | none => none
def fitX (M : RMap) (e : Env) : (l : List It) → Option (idens l)
  | [] => some ()
  | .dt s t :: l => (lookAt t (e.slot s) e.ow).bind fun g => if h : g.1.t = t then bif nott g.2 || disj (rootOfSl (e.slot s)) (olds M) then
      (fitX M e l).bind fun m => some (((h ▸ g.1.x : t.den), m) : t.den × idens l) else none else none
  | .own _ ρ _ t o :: l => (rootX M e ρ t o).bind fun y => (fitX M e l).bind fun m => some ((y, m) : t.den × idens l)
  | .hid ρ t o :: l => (rootX M e ρ t o).bind fun y => (fitX M e l).bind fun m => some ((y, m) : t.den × idens l)
  | .ref s ρ p :: l => match e.slot s with
    | .rf r _ q [] => bif isOld M ρ r && (stepsEqb q p && lrs p) then fitX M e l else none
    | _ => none
  | .cl s f caps :: l => match e.slot s with
    | .cl g k => bif Nat.beq f g && allOld M caps k then fitX M e l else none
    | _ => none
def natsEqb : List Nat → List Nat → Bool
  | [], [] => true
  | a :: l, b :: k => Nat.beq a b && natsEqb l k
  | _, _ => false
theorem natsEqb_eq : ∀ {p q : List Nat}, natsEqb p q = true → p = q
  | [], [], _ => rfl
  | [], _ :: _, h => by simp [natsEqb] at h
  | _ :: _, [], h => by simp [natsEqb] at h
  | s :: p, t :: q, h => by
    simp only [natsEqb, Bool.and_eq_true] at h
    rw [natsEqb_eq h.2, nbeq.1 h.1]
/-- The data of an environment that is of that shape. -/
def fit (nt : Nt) (l : List It) (e : Env) : Option (idens l) :=
  bif Nat.beq e.nt.n nt.n && natsEqb e.nt.pn nt.pn then
    (fitM e l).bind fun M => bif noDup (news M) && noDup (olds M) then fitX M e l else none
  else none

/-! ### Soundness -/
theorem olds_mem {M : RMap} {ρ r : Nat} (h : lk M ρ = some (some r)) : r ∈ olds M := by
  induction M with
  | nil => simp [lk] at h
  | cons q M ih =>
    obtain ⟨k, v⟩ := q
    unfold lk at h
    cases hk : Nat.beq k ρ
    · rw [hk] at h
      have := ih h
      cases v <;> simp [olds, this]
    · rw [hk] at h
      simp only [cond_true, Option.some.injEq] at h
      subst h
      simp [olds]
theorem olds_inj {M : RMap} (hn : (olds M).Nodup) {ρ ρ' r : Nat} (h : lk M ρ = some (some r)) (h' : lk M ρ' = some (some r)) : ρ = ρ' := by
  induction M with
  | nil => simp [lk] at h
  | cons q M ih =>
    obtain ⟨k, v⟩ := q
    unfold lk at h h'
    cases hk : Nat.beq k ρ <;> cases hk' : Nat.beq k ρ' <;> rw [hk] at h <;> rw [hk'] at h' <;> simp only [cond_true, cond_false, Option.some.injEq] at h h'
    · refine ih ?_ h h'
      cases v with
      | none => exact hn
      | some u => exact (List.nodup_cons.1 hn).2
    · subst h'
      exact absurd (olds_mem h) (List.nodup_cons.1 hn).1
    · subst h
      exact absurd (olds_mem h') (List.nodup_cons.1 hn).1
    · rw [← nbeq.1 hk, ← nbeq.1 hk']

section
variable {P : Program} {Γ : Ctx} {e : Env} {a : Act} {w : World} {cs : Nat → List Value} {bs : Nat → List Nat}

def newC (M : RMap) (cs : Nat → List Value) (ρ : Nat) : List Value := match lk M ρ with
  | some (some r) => cs r
  | _ => [.slice none 0 0]
def newB (M : RMap) (bs : Nat → List Nat) (ρ : Nat) : List Nat := match lk M ρ with
  | some (some r) => bs r
  | _ => []

/-- What each new root is. -/
theorem encRt_lk {M : RMap} : ∀ (l : List It) (x : idens l), fitX M e l = some x → ∀ ρ R, lk (encRt l x) ρ = some R → ∃ t o y, R = ⟨0, t, o, y⟩ ∧ rootX M e ρ t o = some y
  | [], x, h, ρ, R, hR => by simp [encRt, lk] at hR
  | .dt s t :: l, x, h, ρ, R, hR => by
    simp only [fitX, Option.bind_eq_some_iff] at h
    obtain ⟨g, _, h⟩ := h
    split at h
    · cases hc : nott g.2 || disj (rootOfSl (e.slot s)) (olds M) <;> rw [hc] at h
      · simp at h
      simp only [cond_true, Option.bind_eq_some_iff, Option.some.injEq] at h
      obtain ⟨m, hm, rfl⟩ := h
      exact encRt_lk l m hm ρ R hR
    · simp at h
  | .own s k p t o :: l, x, h, ρ, R, hR => by
    simp only [fitX, Option.bind_eq_some_iff, Option.some.injEq] at h
    obtain ⟨y, hy, m, hm, rfl⟩ := h
    simp only [encRt] at hR
    unfold lk at hR
    cases hk : Nat.beq k ρ <;> rw [hk] at hR <;> simp only [cond_true, cond_false, Option.some.injEq] at hR
    · exact encRt_lk l m hm ρ R hR
    · rw [← nbeq.1 hk]
      exact ⟨t, o, y, hR.symm, hy⟩
  | .hid k t o :: l, x, h, ρ, R, hR => by
    simp only [fitX, Option.bind_eq_some_iff, Option.some.injEq] at h
    obtain ⟨y, hy, m, hm, rfl⟩ := h
    simp only [encRt] at hR
    unfold lk at hR
    cases hk : Nat.beq k ρ <;> rw [hk] at hR <;> simp only [cond_true, cond_false, Option.some.injEq] at hR
    · exact encRt_lk l m hm ρ R hR
    · rw [← nbeq.1 hk]
      exact ⟨t, o, y, hR.symm, hy⟩
  | .ref s k p :: l, x, h, ρ, R, hR => by
    simp only [fitX] at h
    split at h
    · rename_i r _ q _
      cases hc : isOld M k r && (stepsEqb q p && lrs p) <;> rw [hc] at h
      · simp at h
      exact encRt_lk l x h ρ R hR
    · simp at h
  | .cl s f caps :: l, x, h, ρ, R, hR => by
    simp only [fitX] at h
    split at h
    · rename_i g k _
      cases hc : Nat.beq f g && allOld M caps k <;> rw [hc] at h
      · simp at h
      exact encRt_lk l x h ρ R hR
    · simp at h

theorem rootX_rep {M : RMap} (hp : StP Γ (lk e.ow) w cs bs) {ρ : Nat} {t : Ty} {o : Ow} {y : t.den} (h : rootX M e ρ t o = some y) :
    ((∃ r R, lk M ρ = some (some r) ∧ lk e.ow r = some R ∧ R.t = t) ∨ (lk M ρ = some none ∧ (pack t [.slice none 0 0] = .slice none 0 0))) ∧ Rep w (okOf Γ (lk e.ow) bs) t o y (newC M cs ρ) (newB M bs ρ) := by
  unfold rootX at h
  split at h
  · rename_i r hr
    simp only [Option.bind_eq_some_iff] at h
    obtain ⟨R, hR, h⟩ := h
    obtain ⟨h1, h2⟩ := fitR_sound h
    refine ⟨.inl ⟨r, R, hr, hR, h1⟩, ?_⟩
    unfold newC newB
    rw [hr]
    exact h2 _ _ _ _ (hp.rep r R hR)
  · rename_i hr
    split at h
    · simp only [Option.some.injEq] at h
      subst h
      refine ⟨.inr ⟨hr, rfl⟩, ?_⟩
      unfold newC newB
      rw [hr]
      exact .inl ⟨rfl, rfl, rfl⟩
    · simp at h
  · simp at h

theorem allOld_get {M : RMap} : ∀ {l k : List Nat}, allOld M l k = true → l.length = k.length ∧ ∀ i (h : i < l.length) (h' : i < k.length), lk M l[i] = some (some k[i])
  | [], [], _ => by simp
  | [], _ :: _, h => by simp [allOld] at h
  | _ :: _, [], h => by simp [allOld] at h
  | ρ :: l, r :: k, h => by
    simp only [allOld, Bool.and_eq_true] at h
    obtain ⟨h1, h2⟩ := allOld_get h.2
    refine ⟨by simp [h1], fun i hi hi' => ?_⟩
    cases i with
    | zero =>
      have := h.1
      unfold isOld at this
      split at this
      · rename_i r' hr
        rw [nbeq.1 this] at hr
        exact hr
      · simp at this
    | succ i => exact h2 i (by simpa using hi) (by simpa using hi')

theorem isOld_eq {M : RMap} {ρ r : Nat} (h : isOld M ρ r = true) : lk M ρ = some (some r) := by
  unfold isOld at h
  split at h
  · rename_i r' hr
    rw [nbeq.1 h] at hr
    exact hr
  · simp at h

/-- What a new root holds was so before. -/
theorem new_of_old {M : RMap} (hp : StP Γ (lk e.ow) w cs bs) {l : List It} {x : idens l} (hx : fitX M e l = some x) {ρ : Nat} {R' : Root} (hR' : lk (encRt l x) ρ = some R') :
    (∃ r R, lk M ρ = some (some r) ∧ lk e.ow r = some R ∧ R.t = R'.t ∧ newC M cs ρ = cs r) ∨ (lk M ρ = some none ∧ newC M cs ρ = [.slice none 0 0] ∧ pack R'.t (newC M cs ρ) = .slice none 0 0) := by
  obtain ⟨t, o, y, rfl, h⟩ := encRt_lk l x hx ρ R' hR'
  obtain ⟨h1, _⟩ := rootX_rep hp h
  rcases h1 with ⟨r, R, g1, g2, g3⟩ | ⟨g1, g2⟩
  · exact .inl ⟨r, R, g1, g2, g3, by unfold newC; rw [g1]⟩
  · have : newC M cs ρ = [.slice none 0 0] := by unfold newC; rw [g1]
    exact .inr ⟨g1, this, by rw [this]; exact g2⟩

theorem slot_rf {M : RMap} (hp : StP Γ (lk e.ow) w cs bs) {l : List It} {x : idens l} (hx : fitX M e l = some x) {okO okN : Nat → Prop} {ρ r v : Nat} {p : List Step} {u : Value} (hl : lrs p = true) (hM : lk M ρ = some (some r)) (hs : SlotOK w okO (lk e.ow) cs (.rf r v p []) u) :
    SlotOK w okN (lk (encRt l x)) (newC M cs) (.rf ρ 0 p []) u := by
  intro R' hR'
  refine ⟨Nat.zero_le _, fun _ => ?_⟩
  rcases new_of_old (cs := cs) hp hx hR' with ⟨r', R, g1, g2, g3, g4⟩ | ⟨g1, _⟩
  · rw [hM] at g1
    simp only [Option.some.injEq] at g1
    subst g1
    obtain ⟨_, h2⟩ := hs R g2
    obtain ⟨L, hL, rfl⟩ := h2 (.inl hl)
    rw [g3] at hL
    obtain ⟨L', k1, k2, k3, _⟩ := locate_lrs (w' := w) p [] R'.t R.o R'.o (cs r) none L hl hL
    exact ⟨L', by rw [g4]; exact k1, by rw [k2, k3]⟩
  · rw [hM] at g1; simp at g1

theorem fitM_own {l : List It} {M : RMap} (h : fitM e l = some M) {s ρ : Nat} {p : List Step} {t : Ty} {o : Ow} (hm : .own s ρ p t o ∈ l) : ∃ q, (ρ, q) ∈ M ∧ ((∃ r v, q = some r ∧ e.slot s = .rf r v p [] ∧ lrs p = true) ∨ (q = none ∧ e.slot s = .nilS ∧ p = [])) := by
  induction l generalizing M with
  | nil => simp at hm
  | cons i l ih =>
    cases i with
    | own s' ρ' p' t' o' =>
      simp only [fitM, Option.bind_eq_some_iff, Option.some.injEq] at h
      obtain ⟨q, hq, m, hm', rfl⟩ := h
      rcases List.mem_cons.1 hm with he | hm
      · simp only [It.own.injEq] at he
        obtain ⟨rfl, rfl, rfl, rfl, rfl⟩ := he
        refine ⟨q, by simp, ?_⟩
        split at hq
        · rename_i r v q' hs
          cases hc : stepsEqb q' p && lrs p <;> rw [hc] at hq
          · simp at hq
          simp only [cond_true, Option.some.injEq] at hq
          simp only [Bool.and_eq_true] at hc
          have := stepsEqb_eq hc.1
          subst this
          exact .inl ⟨r, v, hq.symm, hs, hc.2⟩
        · rename_i hs
          split at hq
          · simp only [Option.some.injEq] at hq
            exact .inr ⟨hq.symm, hs, rfl⟩
          · simp at hq
        · simp at hq
      · obtain ⟨q2, h1, h2⟩ := ih hm' hm
        exact ⟨q2, by simp [h1], h2⟩
    | hid ρ' t' o' =>
      simp only [fitM, Option.bind_eq_some_iff, Option.some.injEq] at h
      obtain ⟨m, hm', rfl⟩ := h
      rcases List.mem_cons.1 hm with he | hm
      · simp at he
      · obtain ⟨q2, h1, h2⟩ := ih hm' hm
        exact ⟨q2, by simp [h1], h2⟩
    | dt s' t' =>
      rcases List.mem_cons.1 hm with he | hm
      · simp at he
      · exact ih h hm
    | ref s' ρ' p' =>
      rcases List.mem_cons.1 hm with he | hm
      · simp at he
      · exact ih h hm
    | cl s' f' c' =>
      rcases List.mem_cons.1 hm with he | hm
      · simp at he
      · exact ih h hm
theorem news_map (M : RMap) : news M = M.map (·.1) := by
  induction M with
  | nil => rfl
  | cons q M ih => obtain ⟨k, v⟩ := q; simp [news, ih]

/-- An environment of a shape is told by the shape's own. -/
theorem fit_sound {nt : Nt} {l : List It} {x : idens l} (h : fit nt l e = some x) (hst : St Γ e.ae a w) : St Γ (enc nt l x).ae a w := by
  unfold fit at h
  cases hnt : Nat.beq e.nt.n nt.n && natsEqb e.nt.pn nt.pn <;> rw [hnt] at h
  · simp at h
  simp only [cond_true, Option.bind_eq_some_iff] at h
  simp only [Bool.and_eq_true] at hnt
  have hnte : e.nt = nt := by
    obtain ⟨n1, n2⟩ := nt
    have h1 := nbeq.1 hnt.1
    have h2 := natsEqb_eq hnt.2
    dsimp only at h1 h2
    rw [← h1, ← h2]
  obtain ⟨M, hM, h⟩ := h
  cases hnd : noDup (news M) && noDup (olds M) <;> rw [hnd] at h
  · simp at h
  simp only [cond_true] at h
  simp only [Bool.and_eq_true] at hnd
  have hnN := noDup_nodup hnd.1
  have hnO := noDup_nodup hnd.2
  rw [news_map] at hnN
  obtain ⟨cs, bs, hx⟩ := hst.x
  have hp : StP Γ (lk e.ow) w cs bs := hx.p
  have hok : ∀ z, okOf Γ (lk e.ow) bs z → okOf Γ (lk (encRt l x)) (newB M bs) z := fun z hz => ⟨hz.1, fun ρ R' hR' => by
    rcases new_of_old (cs := cs) hp h hR' with ⟨r, R, g1, g2, _, _⟩ | ⟨g1, _⟩
    · unfold newB; rw [g1]; exact hz.2 r R g2
    · unfold newB; rw [g1]; simp⟩
  have hbs : ∀ ρ R', lk (encRt l x) ρ = some R' → newB M bs ρ = [] ∨ ∃ r R, lk M ρ = some (some r) ∧ lk e.ow r = some R ∧ newB M bs ρ = bs r := fun ρ R' hR' => by
    rcases new_of_old (cs := cs) hp h hR' with ⟨r, R, g1, g2, _, _⟩ | ⟨g1, _⟩
    · exact .inr ⟨r, R, g1, g2, by unfold newB; rw [g1]⟩
    · exact .inl (by unfold newB; rw [g1])
  have hP : StP Γ (lk (encRt l x)) w (newC M cs) (newB M bs) := by
    refine ⟨fun ρ R' hR' => ?_, fun ρ R' hR' => ?_, fun ρ R' ρ' R'' hR' hR'' hne b hb hb' => ?_, fun ρ R' hR' b hb => ?_, hp.ext⟩
    · obtain ⟨t, o, y, rfl, hy⟩ := encRt_lk l x h ρ R' hR'
      exact Rep.frame (fun z hz _ => ⟨hok z hz, rfl⟩) _ _ _ _ _ (fun _ _ => rfl) (rootX_rep hp hy).2
    · rcases hbs ρ R' hR' with g | ⟨r, R, _, g2, g3⟩
      · rw [g]; simp
      · rw [g3]; exact hp.nodup r R g2
    · rcases hbs ρ R' hR' with g | ⟨r, R, g1, g2, g3⟩
      · rw [g] at hb; simp at hb
      rcases hbs ρ' R'' hR'' with g | ⟨r', R1, k1, k2, k3⟩
      · rw [g] at hb'; simp at hb'
      rw [g3] at hb
      rw [k3] at hb'
      by_cases hrr : r = r'
      · subst hrr; exact hne (olds_inj hnO g1 k1)
      · exact hp.sep r R r' R1 g2 k2 hrr b hb hb'
    · rcases hbs ρ R' hR' with g | ⟨r, R, g1, g2, g3⟩
      · rw [g] at hb; simp at hb
      · rw [g3] at hb; exact hp.own r R g2 b hb
  have hslot : ∀ s, SlotOK w (okOf Γ (lk e.ow) bs) (lk e.ow) cs (e.slot s) (a.tmps.getD s undef) := hx.slots
  have main : ∀ (l' : List It) (x' : idens l'), (∀ i ∈ l', i ∈ l) → fitX M e l' = some x' → ∀ s sl, lk (encSl l' x') s = some sl → SlotOK w (okOf Γ (lk (encRt l x)) (newB M bs)) (lk (encRt l x)) (newC M cs) sl (a.tmps.getD s undef) := by
    intro l'
    induction l' with
    | nil => intro x' _ _ s sl hs; simp [encSl, lk] at hs
    | cons i l' ih =>
      intro x' hin hf s sl hs
      have hin' : ∀ i ∈ l', i ∈ l := fun i hi => hin i (by simp [hi])
      cases i with
      | dt s0 t =>
        simp only [fitX, Option.bind_eq_some_iff] at hf
        obtain ⟨g, hg, hf⟩ := hf
        split at hf
        · rename_i hgt
          cases hc : nott g.2 || disj (rootOfSl (e.slot s0)) (olds M) <;> rw [hc] at hf
          · simp at hf
          simp only [cond_true, Option.bind_eq_some_iff, Option.some.injEq] at hf
          obtain ⟨m, hm, rfl⟩ := hf
          simp only [encSl] at hs
          unfold lk at hs
          cases hk : Nat.beq s0 s <;> rw [hk] at hs <;> simp only [cond_true, cond_false, Option.some.injEq] at hs
          · exact ih m hin' hm s sl hs
          · subst hs
            have := nbeq.1 hk
            subst this
            obtain ⟨c, hr, hv, ho⟩ := lookAt_sound (C := fun _ => false) (okC := okOf Γ (lk (encRt l x)) (newB M bs)) hp hok (fun r R hR => ⟨rfl, hR⟩) (hslot s0) hg (fun hseen r hr R hR _ b hb => by
              rw [hseen] at hc
              simp only [nott, Bool.false_or] at hc
              have hnot := disj_not hc r hr
              refine ⟨.inr (hp.own r R hR b hb), fun ρ R' hR' => ?_⟩
              rcases hbs ρ R' hR' with g | ⟨r', R1, g1, g2, g3⟩
              · rw [g]; simp
              · rw [g3]
                have hne : r ≠ r' := fun e => hnot (e ▸ olds_mem g1)
                exact hp.sep r R r' R1 hR g2 hne b hb)
            obtain ⟨⟨gt, go, gx⟩, gb⟩ := g
            dsimp only at hgt hr hv
            subst hgt
            exact ⟨c, hr, hv⟩
        · simp at hf
      | own s0 ρ p t o =>
        simp only [fitX, Option.bind_eq_some_iff, Option.some.injEq] at hf
        obtain ⟨y, hy, m, hm, rfl⟩ := hf
        simp only [encSl] at hs
        unfold lk at hs
        cases hk : Nat.beq s0 s <;> rw [hk] at hs <;> simp only [cond_true, cond_false, Option.some.injEq] at hs
        · exact ih m hin' hm s sl hs
        · subst hs
          have := nbeq.1 hk
          subst this
          obtain ⟨q, hq1, hq2⟩ := fitM_own hM (hin _ (List.mem_cons_self ..))
          have hlk := lk_of_mem hnN hq1
          rcases hq2 with ⟨r, v, rfl, hsl, hl⟩ | ⟨rfl, hsl, rfl⟩
          · have := hslot s0
            rw [hsl] at this
            exact slot_rf hp h hl hlk this
          · intro R' hR'
            refine ⟨Nat.zero_le _, fun _ => ⟨_, rfl, ?_⟩⟩
            have hv := hslot s0
            rw [hsl] at hv
            rcases new_of_old (cs := cs) hp h hR' with ⟨r, R, g1, _⟩ | ⟨_, _, g3⟩
            · rw [hlk] at g1; simp at g1
            · exact hv.trans g3.symm
      | hid ρ t o =>
        simp only [fitX, Option.bind_eq_some_iff, Option.some.injEq] at hf
        obtain ⟨y, hy, m, hm, rfl⟩ := hf
        exact ih m hin' hm s sl hs
      | ref s0 ρ p =>
        simp only [fitX] at hf
        split at hf
        · rename_i r v q hsl
          cases hc : isOld M ρ r && (stepsEqb q p && lrs p) <;> rw [hc] at hf
          · simp at hf
          simp only [cond_true] at hf
          simp only [Bool.and_eq_true] at hc
          simp only [encSl] at hs
          unfold lk at hs
          cases hk : Nat.beq s0 s <;> rw [hk] at hs <;> simp only [cond_true, cond_false, Option.some.injEq] at hs
          · exact ih x' hin' hf s sl hs
          · subst hs
            have := nbeq.1 hk
            subst this
            have hqp := stepsEqb_eq hc.2.1
            subst hqp
            have := hslot s0
            rw [hsl] at this
            exact slot_rf hp h hc.2.2 (isOld_eq hc.1) this
        · simp at hf
      | cl s0 f caps =>
        simp only [fitX] at hf
        split at hf
        · rename_i g k hsl
          cases hc : Nat.beq f g && allOld M caps k <;> rw [hc] at hf
          · simp at hf
          simp only [cond_true] at hf
          simp only [Bool.and_eq_true] at hc
          simp only [encSl] at hs
          unfold lk at hs
          cases hk : Nat.beq s0 s <;> rw [hk] at hs <;> simp only [cond_true, cond_false, Option.some.injEq] at hs
          · exact ih x' hin' hf s sl hs
          · subst hs
            have := nbeq.1 hk
            subst this
            have hfg := nbeq.1 hc.1
            subst hfg
            obtain ⟨hl, hget⟩ := allOld_get hc.2
            have := hslot s0
            rw [hsl] at this
            obtain ⟨cap, hv, hlen, hcap⟩ := this
            refine ⟨cap, hv, by rw [hlen, hl], fun i hi R' hR' => ?_⟩
            have hM' := hget i hi (by rw [← hl]; exact hi)
            rcases new_of_old (cs := cs) hp h hR' with ⟨r, R, g1, g2, g3, g4⟩ | ⟨g1, _⟩
            · rw [hM'] at g1
              simp only [Option.some.injEq] at g1
              have hR := hcap i (by rw [← hl]; exact hi) R (by rw [g1]; exact g2)
              rw [hR, g4, ← g3, g1]
            · rw [hM'] at g1; simp at g1
        · simp at hf
  refine StX.st (cs := newC M cs) (bs := newB M bs) ⟨hP, fun s => ?_, by rw [hx.size]; exact congrArg Nt.n hnte, hx.defers, fun i hi => hx.pins i (by rw [show e.ae.nt = e.nt from rfl, hnte]; exact hi)⟩
  show SlotOK _ _ _ _ ((lk (encSl l x) s).getD .un) _
  cases hs : lk (encSl l x) s with
  | none => trivial
  | some sl => exact main l x (fun i hi => hi) h s sl hs
end
end Go.Rex

/-! Loops: from rounds to a function. -/
set_option linter.unusedSimpArgs false
set_option linter.unusedVariables false
namespace Go.Rex

@[reducible] def odens : List (Nat × List It) → Type
  | [] => Empty
  | q :: l => match l with
    | [] => idens q.2
    | _ :: _ => idens q.2 ⊕ odens l
def dsum {A B C : Type} (x : A ⊕ B) (f : A → C) (g : B → C) : C := match x with
  | .inl a => f a
  | .inr b => g b
def exOf : Nat → Ex
  | 0 => .ret
  | Nat.succ k => .exit k
def leave {β : Type} (nt : Nt) : (outs : List (Nat × List It)) → odens outs → (Ex → Env → Option β) → Option β
  | [], _, _ => none
  | [q], x, K => K (exOf q.1) (enc nt q.2 x)
  | q :: r :: l, x, K => dsum x (fun a => K (exOf q.1) (enc nt q.2 a)) (fun b => leave nt (r :: l) b K)
def inj (nt : Nt) : (outs : List (Nat × List It)) → Nat → Env → Option (odens outs)
  | [], _, _ => none
  | [q], k, e => bif Nat.beq q.1 k then fit nt q.2 e else none
  | q :: r :: l, k, e => bif Nat.beq q.1 k then (fit nt q.2 e).bind fun x => some (.inl x) else (inj nt (r :: l) k e).bind fun y => some (.inr y)
def loopK (nt : Nt) (hd : List It) (outs : List (Nat × List It)) (f : idens hd → Option (odens outs)) (ex : Ex) (e : Env) : Option (odens outs) := match ex with
  | .normal => (fit nt hd e).bind f
  | .ret => inj nt outs 0 e
  | .exit i => inj nt outs (Nat.succ i) e

/-- A loop, told. -/
structure LSum where
  nt : Nt
  hd : List It
  outs : List (Nat × List It)
  fn : idens hd → Option (odens outs)
def lsOf (T : List (Nat × LSum)) : Loops := ⟨fun n e K => match lk T n with
  | some L => (fit L.nt L.hd e).bind fun x => dbind (L.fn x) fun out => leave L.nt L.outs out K
  | none => none⟩

section
variable {P : Program}
def LOK (P : Program) (c : Code) (L : LSum) : Prop := ∀ (x : idens L.hd) (out : odens L.outs), L.fn x = some out → ∃ ex e', (∀ (β : Type) (K : Ex → Env → Option β), leave L.nt L.outs out K = K ex e') ∧ GoesC P (.loop c) (enc L.nt L.hd x) ex e'

theorem leave_at (nt : Nt) : ∀ (outs : List (Nat × List It)) (out : odens outs), ∃ ex e', ∀ (β : Type) (K : Ex → Env → Option β), leave nt outs out K = K ex e'
  | [], x => x.elim
  | [q], x => ⟨_, _, fun _ _ => rfl⟩
  | q :: r :: l, .inl x => ⟨exOf q.1, enc nt q.2 x, fun _ _ => rfl⟩
  | q :: r :: l, .inr y => by
    obtain ⟨ex, e', h⟩ := leave_at nt (r :: l) y
    exact ⟨ex, e', fun β K => h β K⟩
theorem inj_at (nt : Nt) : ∀ (outs : List (Nat × List It)) (k : Nat) (e : Env) (out : odens outs), inj nt outs k e = some out →
    ∃ e', (∀ (β : Type) (K : Ex → Env → Option β), leave nt outs out K = K (exOf k) e') ∧ ∀ (Γ : Ctx) (a : Act) (w : World), St Γ e.ae a w → St Γ e'.ae a w
  | [], k, e, out, h => out.elim
  | [q], k, e, out, h => by
    simp only [inj] at h
    cases hk : Nat.beq q.1 k <;> rw [hk] at h
    · simp at h
    simp only [cond_true] at h
    have := nbeq.1 hk
    subst this
    exact ⟨enc nt q.2 out, fun _ _ => rfl, fun Γ a w hst => fit_sound h hst⟩
  | q :: r :: l, k, e, out, h => by
    simp only [inj] at h
    cases hk : Nat.beq q.1 k <;> rw [hk] at h
    · simp only [cond_false, Option.bind_eq_some_iff, Option.some.injEq] at h
      obtain ⟨y, hy, rfl⟩ := h
      obtain ⟨e', h1, h2⟩ := inj_at nt (r :: l) k e y hy
      exact ⟨e', fun β K => h1 β K, h2⟩
    · simp only [cond_true, Option.bind_eq_some_iff, Option.some.injEq] at h
      obtain ⟨x, hx, rfl⟩ := h
      have := nbeq.1 hk
      subst this
      exact ⟨enc nt q.2 x, fun _ _ => rfl, fun Γ a w hst => fit_sound hx hst⟩

theorem loop_rounds {G : Cfg} (hG : CfgOK P G) {Ls : Loops} {c : Code} {n : Nat} (hL : LsOK P Ls c n) {nt : Nt} {hd : List It} {outs : List (Nat × List It)} (l : Nat → idens hd → Option (odens outs)) (h0 : ∀ x, l 0 x = none)
    (hs : ∀ k x, l (k + 1) x = ev G Ls c n (enc nt hd x) (loopK nt hd outs (l k))) : ∀ (k : Nat) (x : idens hd) (out : odens outs), l k x = some out →
    ∀ (ex : Ex) (e' : Env), (∀ (β : Type) (K : Ex → Env → Option β), leave nt outs out K = K ex e') → ∀ (Γ : Ctx) (a : Act) (w : World) (Q : Exit → Act → World → Prop), St Γ (enc nt hd x).ae a w →
      (∀ a' w', St Γ e'.ae a' w' → Q ex.out a' w') → Code.rounds P c Q k a w
  | 0, x, out, h, ex, e', _, Γ, a, w, Q, _, _ => by rw [h0] at h; simp at h
  | k + 1, x, out, h, ex, e', hlv, Γ, a, w, Q, hst, hq => by
    rw [hs] at h
    obtain ⟨x1, e1, h1, h2⟩ := ev_sound hG c n hL _ _ _ _ h
    rw [rounds_succ]
    have other : ∀ k0, inj nt outs k0 e1 = some out → ex = exOf k0 ∧ ∀ (Γ : Ctx) (a : Act) (w : World), St Γ e1.ae a w → St Γ e'.ae a w := fun k0 hi => by
      obtain ⟨e2, g1, g2⟩ := inj_at nt outs k0 e1 out hi
      have e3 := hlv (Ex × Env) (fun x y => some (x, y))
      rw [g1] at e3
      simp only [Option.some.injEq, Prod.mk.injEq] at e3
      obtain ⟨e4, e5⟩ := e3
      exact ⟨e4.symm, fun Γ a w hst => e5 ▸ g2 Γ a w hst⟩
    cases x1 with
    | normal =>
      simp only [loopK, Option.bind_eq_some_iff] at h1
      obtain ⟨x', hf, h1⟩ := h1
      exact h2 Γ a w _ hst fun a' w' hst' => loop_rounds hG hL l h0 hs k x' out h1 ex e' hlv Γ a' w' Q (fit_sound hf hst') hq
    | ret =>
      obtain ⟨g1, g2⟩ := other 0 h1
      subst g1
      exact h2 Γ a w _ hst fun a' w' hst' => hq a' w' (g2 Γ a' w' hst')
    | exit i =>
      obtain ⟨g1, g2⟩ := other (i + 1) h1
      subst g1
      exact h2 Γ a w _ hst fun a' w' hst' => hq a' w' (g2 Γ a' w' hst')

theorem loop_ok {G : Cfg} (hG : CfgOK P G) {Ls : Loops} {c : Code} {n : Nat} (hL : LsOK P Ls c n) (L : LSum) (l : Nat → idens L.hd → Option (odens L.outs)) (h0 : ∀ x, l 0 x = none)
    (hs : ∀ k x, l (k + 1) x = ev G Ls c n (enc L.nt L.hd x) (loopK L.nt L.hd L.outs (l k))) (k : Nat) (hfn : ∀ x, L.fn x = l k x) : LOK P c L := by
  intro x out h
  rw [hfn] at h
  obtain ⟨ex, e', hlv⟩ := leave_at L.nt L.outs out
  exact ⟨ex, e', hlv, fun Γ a w Q hst hq => wp_loop_rounds k (loop_rounds hG hL l h0 hs k x out h ex e' hlv Γ a w Q hst hq)⟩

/-! ### All loops of a body -/
def loopList : Code → Nat → List Code
  | .seq a b, n => loopList a n ++ loopList b n
  | .cond _ a b, n => loopList a n ++ loopList b n
  | .block _ c, n => loopList c n
  | .loop c, n => c :: loopList c n
  | _, _ => []
theorem loopList_len : ∀ (c : Code) (n : Nat), (loopList c n).length = loops c
  | .seq a b, n => by
    simp only [loopList, List.length_append, loops, loopList_len a, loopList_len b]; rfl
  | .cond _ a b, n => by
    simp only [loopList, List.length_append, loops, loopList_len a, loopList_len b]; rfl
  | .block _ c, n => by simp only [loopList, loops, loopList_len c]
  | .loop c, n => by simp only [loopList, loops, List.length_cons, loopList_len c]
  | .skip, n => rfl
  | .region .., n => rfl
  | .exit _, n => rfl
  | .ret, n => rfl
  | .rangeFunc .., n => rfl
  | .label _, n => rfl
  | .goto _, n => rfl
  | .scope _, n => rfl
  | .refuse _, n => rfl
def loopListE : Code → Nat → List Code
  | .seq a b, n => appL (loopListE a n) (loopListE b n)
  | .cond _ a b, n => appL (loopListE a n) (loopListE b n)
  | .block _ c, n => loopListE c n
  | .loop c, n => c :: loopListE c n
  | _, _ => []
theorem loopListE_eq : ∀ (c : Code) (n : Nat), loopListE c n = loopList c n
  | .seq a b, n => by simp only [loopListE, loopList, appL_eq, loopListE_eq a, loopListE_eq b]
  | .cond _ a b, n => by simp only [loopListE, loopList, appL_eq, loopListE_eq a, loopListE_eq b]
  | .block _ c, n => by simp only [loopListE, loopList, loopListE_eq c]
  | .loop c, n => by simp only [loopListE, loopList, loopListE_eq c]
  | .skip, n => rfl
  | .region .., n => rfl
  | .exit _, n => rfl
  | .ret, n => rfl
  | .rangeFunc .., n => rfl
  | .label _, n => rfl
  | .goto _, n => rfl
  | .scope _, n => rfl
  | .refuse _, n => rfl
def lc (body : Code) (i : Nat) : Code := (nthL (loopListE body 0) i).getD .skip
theorem lc_eq (body : Code) (i : Nat) : lc body i = ((loopList body 0)[i]?).getD .skip := by unfold lc; rw [nthL_eq, loopListE_eq]

def LFact (P : Program) (T : List (Nat × LSum)) (i : Nat) (c : Code) : Prop := ∃ L, lk T i = some L ∧ LOK P c L
theorem lsOK_of {T : List (Nat × LSum)} : ∀ (c : Code) (n : Nat), (∀ i c', (loopList c 0)[i]? = some c' → LFact P T (n + i) c') → LsOK P (lsOf T) c n
  | .seq a b, n, h => by
    refine ⟨lsOK_of a n fun i c' hi => h i c' ?_, lsOK_of b (n + loops a) fun i c' hi => ?_⟩
    · simp only [loopList]
      rw [List.getElem?_append_left (List.getElem?_eq_some_iff.1 hi).1]; exact hi
    · have := h (loops a + i) c' (by
        simp only [loopList]
        rw [List.getElem?_append_right (by rw [loopList_len]; omega), loopList_len]
        rw [show loops a + i - loops a = i by omega]; exact hi)
      rw [show n + loops a + i = n + (loops a + i) by omega]; exact this
  | .cond _ a b, n, h => by
    refine ⟨lsOK_of a n fun i c' hi => h i c' ?_, lsOK_of b (n + loops a) fun i c' hi => ?_⟩
    · simp only [loopList]
      rw [List.getElem?_append_left (List.getElem?_eq_some_iff.1 hi).1]; exact hi
    · have := h (loops a + i) c' (by
        simp only [loopList]
        rw [List.getElem?_append_right (by rw [loopList_len]; omega), loopList_len]
        rw [show loops a + i - loops a = i by omega]; exact hi)
      rw [show n + loops a + i = n + (loops a + i) by omega]; exact this
  | .block _ c, n, h => lsOK_of c n h
  | .loop c, n, h => by
    intro β e K r hr
    obtain ⟨L, hL, hok⟩ := h 0 c (by simp [loopList])
    simp only [Nat.add_zero] at hL
    simp only [lsOf, hL, Option.bind_eq_some_iff] at hr
    obtain ⟨x, hx, hr⟩ := hr
    cases hf : L.fn x with
    | none => rw [hf] at hr; simp [dbind] at hr
    | some out =>
      rw [hf] at hr
      simp only [dbind] at hr
      obtain ⟨ex, e', h1, h2⟩ := hok x out hf
      rw [h1] at hr
      exact ⟨ex, e', hr, fun Γ a w Q hst hq => h2 Γ a w Q (fit_sound hx hst) hq⟩
  | .skip, n, h => trivial
  | .region .., n, h => trivial
  | .exit _, n, h => trivial
  | .ret, n, h => trivial
  | .rangeFunc .., n, h => trivial
  | .label _, n, h => trivial
  | .goto _, n, h => trivial
  | .scope _, n, h => trivial
  | .refuse _, n, h => trivial

theorem loopList_n : ∀ (c : Code) (n m : Nat), loopList c n = loopList c m
  | .seq a b, n, m => by simp only [loopList, loopList_n a n m, loopList_n b n m]
  | .cond _ a b, n, m => by simp only [loopList, loopList_n a n m, loopList_n b n m]
  | .block _ c, n, m => by simp only [loopList, loopList_n c n m]
  | .loop c, n, m => by simp only [loopList, loopList_n c n m]
  | .skip, n, m => rfl
  | .region .., n, m => rfl
  | .exit _, n, m => rfl
  | .ret, n, m => rfl
  | .rangeFunc .., n, m => rfl
  | .label _, n, m => rfl
  | .goto _, n, m => rfl
  | .scope _, n, m => rfl
  | .refuse _, n, m => rfl

/-- The loops inside a loop come right behind it. -/
theorem loopList_in : ∀ (c : Code) (i : Nat) (d : Code), (loopList c 0)[i]? = some d → ∀ j d', (loopList d 0)[j]? = some d' → (loopList c 0)[i + 1 + j]? = some d'
  | .seq a b, i, d, h, j, d', h' => by
    simp only [loopList] at h ⊢
    by_cases hi : i < (loopList a 0).length
    · rw [List.getElem?_append_left hi] at h
      have := loopList_in a i d h j d' h'
      rw [List.getElem?_append_left (List.getElem?_eq_some_iff.1 this).1]; exact this
    · rw [List.getElem?_append_right (by omega)] at h
      have := loopList_in b _ d h j d' h'
      rw [List.getElem?_append_right (by omega), ← this]; congr 1; omega
  | .cond _ a b, i, d, h, j, d', h' => by
    simp only [loopList] at h ⊢
    by_cases hi : i < (loopList a 0).length
    · rw [List.getElem?_append_left hi] at h
      have := loopList_in a i d h j d' h'
      rw [List.getElem?_append_left (List.getElem?_eq_some_iff.1 this).1]; exact this
    · rw [List.getElem?_append_right (by omega)] at h
      have := loopList_in b _ d h j d' h'
      rw [List.getElem?_append_right (by omega), ← this]; congr 1; omega
  | .block _ c, i, d, h, j, d', h' => loopList_in c i d h j d' h'
  | .loop c, i, d, h, j, d', h' => by
    simp only [loopList] at h ⊢
    cases i with
    | zero =>
      simp only [List.getElem?_cons_zero, Option.some.injEq] at h
      subst h
      rw [show 0 + 1 + j = j + 1 by omega, List.getElem?_cons_succ]; exact h'
    | succ i =>
      rw [List.getElem?_cons_succ] at h
      rw [show i + 1 + 1 + j = (i + 1 + j) + 1 by omega, List.getElem?_cons_succ]
      exact loopList_in c i d h j d' h'
  | .skip, i, d, h, j, d', h' => by simp [loopList] at h
  | .region .., i, d, h, j, d', h' => by simp [loopList] at h
  | .exit _, i, d, h, j, d', h' => by simp [loopList] at h
  | .ret, i, d, h, j, d', h' => by simp [loopList] at h
  | .rangeFunc .., i, d, h, j, d', h' => by simp [loopList] at h
  | .label _, i, d, h, j, d', h' => by simp [loopList] at h
  | .goto _, i, d, h, j, d', h' => by simp [loopList] at h
  | .scope _, i, d, h, j, d', h' => by simp [loopList] at h
  | .refuse _, i, d, h, j, d', h' => by simp [loopList] at h

/-- The facts on a body's loops from number i on. -/
def From (P : Program) (T : List (Nat × LSum)) (body : Code) (i : Nat) : Prop := ∀ m, i ≤ m → m < loops body → LFact P T m (lc body m)
theorem from_end {T : List (Nat × LSum)} {body : Code} {N : Nat} (h : loops body = N) : From P T body N := fun m h1 h2 => by omega
theorem from_step {G : Cfg} (hG : CfgOK P G) {T : List (Nat × LSum)} {body : Code} {i : Nat} (H : From P T body (i + 1)) (L : LSum) (hT : lk T i = some L) (l : Nat → idens L.hd → Option (odens L.outs)) (h0 : ∀ x, l 0 x = none)
    (hs : ∀ k x, l (k + 1) x = ev G (lsOf T) (lc body i) (i + 1) (enc L.nt L.hd x) (loopK L.nt L.hd L.outs (l k))) (k : Nat) (hfn : ∀ x, L.fn x = l k x) : From P T body i := by
  intro m h1 h2
  by_cases hm : m = i
  · subst hm
    refine ⟨L, hT, loop_ok hG (n := m + 1) (lsOK_of _ _ fun j c' hj => ?_) L l h0 hs k hfn⟩
    have hget : (loopList body 0)[m]? = some (lc body m) := by
      rw [lc_eq]
      rw [List.getElem?_eq_getElem (by rw [loopList_len]; exact h2)]; rfl
    have := loopList_in body m _ hget j c' hj
    have hlt : m + 1 + j < loops body := by
      have := (List.getElem?_eq_some_iff.1 this).1
      rw [loopList_len] at this; exact this
    have hq := H (m + 1 + j) (by omega) hlt
    have e : lc body (m + 1 + j) = c' := by rw [lc_eq, this]; rfl
    rw [e] at hq
    exact hq
  · exact H m (by omega) h2
theorem from_stub {T : List (Nat × LSum)} {body : Code} {i : Nat} (H : From P T body (i + 1)) (L : LSum) (hT : lk T i = some L) (h0 : ∀ x, L.fn x = none) : From P T body i := by
  intro m h1 h2
  by_cases hm : m = i
  · subst hm
    exact ⟨L, hT, fun x out h => by rw [h0] at h; simp at h⟩
  · exact H m (by omega) h2
theorem from_all {T : List (Nat × LSum)} {body : Code} (H : From P T body 0) : LsOK P (lsOf T) body 0 := lsOK_of _ _ fun i c' hi => by
  have hlt := (List.getElem?_eq_some_iff.1 hi).1
  rw [loopList_len] at hlt
  have := H i (Nat.zero_le _) hlt
  have e : lc body i = c' := by rw [lc_eq, hi]; rfl
  rw [e] at this
  rw [Nat.zero_add]; exact this
end
end Go.Rex

/-! Laws: what came in, told. -/
set_option linter.unusedSimpArgs false
set_option linter.unusedVariables false
namespace Go.Rex

/-- What is known of a datum that came in. -/
def Fits : (t : Ty) → t.den → Prop
  | .int k, n => k.min ≤ n ∧ n ≤ k.max
  | .str, s => ByteArray.size s ≤ 140737488351232
  | .pr a b, x => Fits a x.1 ∧ Fits b x.2
  | .sl u, xs => List.length xs ≤ 140737488351232 ∧ ∀ x ∈ (xs : List u.den), Fits u x
  | _, _ => True

/-- Does the type number bear that type? And do these fields? -/
def tokF (P : Program) : Ty → (TypeId → Bool) × (List Field → Nat → Bool)
  | .int k => (fun t => match P.underlying t with | some (.int k') => kindEqb k' k | _ => false, fun _ _ => false)
  | .bool => (fun t => match P.underlying t with | some .bool => true | _ => false, fun _ _ => false)
  | .str => (fun t => match P.underlying t with | some .string => true | _ => false, fun _ _ => false)
  | .nl => (fun _ => false, fun fs _ => match fs with | [] => true | _ => false)
  | .sl u => (fun t => match P.underlying t with
      | some (.slice e) => Nat.beq (P.cellsOf e) u.width && (Nat.blt 0 u.width && (Nat.blt 0 (P.bytesOf e) && (tokF P u).1 e))
      | _ => false, fun _ _ => false)
  | .pr a b =>
    let ch : List Field → Nat → Bool := fun fs off => match fs with
      | f :: fs => Nat.beq f.offset off && (Nat.beq (P.cellsOf f.type) a.width && ((tokF P a).1 f.type && (tokF P b).2 fs (Nat.add off a.width)))
      | [] => false
    (fun t => match P.underlying t with
      | some (.struct fs) => Nat.beq (P.cellsOf t) (Nat.add a.width b.width) && ch fs.toList 0
      | _ => false, ch)
  | _ => (fun _ => false, fun _ _ => false)

section
variable {H : Type} {enc : TypeId × Value → H} {P : Program} {W : World} {base : Nat} {spare : Nat → Bool} {held : Bool}

theorem weightsAll_mem {e : TypeId} {n : Nat} : ∀ {ds : List (DataW H)} {d : DataW H}, d ∈ ds → n ∈ d.weights P e → n ∈ DataW.weightsAll P e ds
  | [], d, h, _ => by simp at h
  | c :: ds, d, h, hn => by
    simp only [DataW.weightsAll, List.mem_append]
    rcases List.mem_cons.1 h with rfl | h
    · exact .inl hn
    · exact .inr (weightsAll_mem h hn)

theorem cells_at {a : Addr} {n : Nat} {cs : List Value} (h : W.cells? base a n = some cs) : cs.length = n ∧ (0 < n → a.spot = none ∧ a.block < W.heap.size) ∧ (a.spot = none → At W a.block a.off cs) := by
  unfold World.cells? at h
  split at h
  · have hl := mapM_some_length h
    have hg := mapM_some_get h
    simp only [List.length_range] at hl
    refine ⟨hl, fun hn => ?_, fun hs j hj => ?_⟩
    · have := hg 0 0 (by rw [List.getElem?_range hn])
      have hc : ∃ v, W.cell? (a.add 0) = some v := ⟨_, by rw [this, List.getElem?_eq_getElem (by omega)]⟩
      obtain ⟨v, hc⟩ := hc
      have e0 : a.add 0 = a := by simp [Addr.add]
      rw [e0] at hc
      unfold World.cell? at hc
      split at hc
      · rename_i c _ _ hb
        split at hc
        · simp at hc
        · rename_i hsp
          refine ⟨by cases h : a.spot <;> simp_all, (Array.getElem?_eq_some_iff.1 hb).1⟩
      · simp at hc
    · have := hg j j (by rw [List.getElem?_range (by omega)])
      rw [List.getElem?_eq_getElem hj] at this
      rw [← this]
      obtain ⟨b, o, s⟩ := a
      dsimp only at hs
      subst hs
      rw [add_plain]
  · simp at h

/-- What is proved of a type. -/
def Opens (enc : TypeId × Value → H) (P : Program) (W : World) (base : Nat) (spare : Nat → Bool) (held : Bool) (t : Ty) : Prop :=
  (∀ (tid : TypeId) (n : Nat) (cs : List Value) (x : DataW H × List MemPlace), (tokF P t).1 tid = true → DataW.trod enc P W base spare held n tid cs = some x → (∀ m ∈ DataW.weights P tid x.1, m ≤ reachBytes) →
    ∃ y, Rep W (fun _ => True) t .no y cs [] ∧ Fits t y) ∧
  (∀ (fs : List Field) (off n : Nat) (cs : List Value) (xs : List (DataW H × List MemPlace)), (tokF P t).2 fs off = true → xs.length = fs.length →
    (∀ (i : Nat) (f : Field), fs[i]? = some f → DataW.trod enc P W base spare held n f.type ((cs.drop f.offset).take (P.cellsOf f.type)) = xs[i]?) → (∀ m ∈ DataW.weightsEach P (fs.map (·.type)) (xs.map (·.1)), m ≤ reachBytes) → cs.length = off + t.width →
    ∃ y, Rep W (fun _ => True) t .no y (cs.drop off) [] ∧ Fits t y)

theorem opens : ∀ t : Ty, Opens enc P W base spare held t
  | .int k => by
    refine ⟨fun tid n cs x h hx _ => ?_, fun fs off n cs xs h => by simp [tokF] at h⟩
    simp only [tokF] at h
    split at h
    · rename_i k' hu
      obtain rfl := kindEqb_eq h
      obtain ⟨m, rfl, _, hw⟩ := DataW.trod_int hu hx
      simp only [Lit.wf, Bool.and_eq_true, decide_eq_true_eq] at hw
      exact ⟨m, ⟨rfl, rfl⟩, hw⟩
    · simp at h
  | .bool => by
    refine ⟨fun tid n cs x h hx _ => ?_, fun fs off n cs xs h => by simp [tokF] at h⟩
    simp only [tokF] at h
    split at h
    · rename_i hu
      obtain ⟨m, rfl, _⟩ := DataW.trod_bool hu hx
      exact ⟨m, ⟨rfl, rfl⟩, trivial⟩
    · simp at h
  | .str => by
    refine ⟨fun tid n cs x h hx hwt => ?_, fun fs off n cs xs h => by simp [tokF] at h⟩
    simp only [tokF] at h
    split at h
    · rename_i hu
      obtain ⟨s, rfl, rfl, _⟩ := DataW.trod_string hu hx
      have := hwt s.data.toList.length (by simp [DataW.weights])
      exact ⟨s, ⟨rfl, rfl⟩, by
        show ByteArray.size s ≤ 140737488351232
        have e : s.data.toList.length = s.size := by simp
        have h2 : reachBytes = 140737488351232 := rfl
        omega⟩
    · simp at h
  | .nl => by
    refine ⟨fun tid n cs x h => by simp [tokF] at h, fun fs off n cs xs h hl hf hw hc => ?_⟩
    simp only [Ty.width] at hc
    exact ⟨(), ⟨rfl, by simp; omega⟩, trivial⟩
  | .sl u => by
    have ih := (opens u).1
    refine ⟨fun tid n cs x h hx hwt => ?_, fun fs off n cs xs h => by simp [tokF] at h⟩
    simp only [tokF] at h
    split at h
    · rename_i e hu
      simp only [Bool.and_eq_true] at h
      obtain ⟨h1, h2, h3, h4⟩ := h
      have h1 := nbeq.1 h1
      have h2 : 0 < u.width := by simpa using h2
      have h3 : 0 < P.bytesOf e := by simpa using h3
      rcases DataW.trod_slice hu hx with ⟨rfl, rfl⟩ | ⟨a, len, cap, elems, rest, m, rfl, rfl, rfl, hb, hlc, hcm, hlen, hel, _, _⟩
      · exact ⟨[], ⟨rfl, none, 0, rfl, by simp, by simp, .inl rfl⟩, by simp [Fits]⟩
      · simp only [DataW.weights, hu, List.mem_cons, List.mem_append, List.length_map] at hwt
        have hsz := hwt _ (.inl rfl)
        have hlen2 : len ≤ 140737488351232 := by
          have h5 : len ≤ (elems.length + rest.length) * P.bytesOf e := by
            have : len ≤ elems.length + rest.length := by omega
            exact Nat.le_trans this (Nat.le_mul_of_pos_right _ h3)
          have h6 : reachBytes = 140737488351232 := rfl
          omega
        have hspot : 0 < len → a.spot = none ∧ a.block < W.heap.size := fun h0 => by
          have := hel 0 h0
          rw [Nat.zero_mul] at this
          cases hc : W.cells? base (a.add 0) (P.cellsOf e) with
          | none =>
            rw [hc] at this
            rw [List.getElem?_eq_getElem (by omega)] at this
            simp at this
          | some cs =>
            have e0 : a.add 0 = a := by simp [Addr.add]
            rw [e0] at hc
            exact (cells_at hc).2.1 (by omega)
        have build : ∀ q, q ≤ len → ∃ (ys : List u.den) (es : List Value), ys.length = q ∧ es.length = q * u.width ∧ (a.spot = none → At W a.block a.off es) ∧ RepL (Rep W (fun _ => True) u .no) ys es [] ∧ ∀ y ∈ ys, Fits u y := by
          intro q
          induction q with
          | zero => intro _; exact ⟨[], [], rfl, by simp, fun _ => At.nil, ⟨rfl, rfl⟩, by simp⟩
          | succ q ihq =>
            intro hq
            obtain ⟨ys, es, g1, g2, g3, g4, g5⟩ := ihq (by omega)
            have hq' := hel q (by omega)
            rw [List.getElem?_eq_getElem (by omega)] at hq'
            simp only [Option.bind_eq_some_iff] at hq'
            obtain ⟨cs, hc, ht⟩ := hq'
            obtain ⟨k1, k2, k3⟩ := cells_at hc
            obtain ⟨y, hy, hfy⟩ := ih e m cs _ h4 ht fun m' hm' => hwt m' (.inr (.inl (weightsAll_mem (List.mem_map.2 ⟨_, List.getElem_mem _, rfl⟩) hm')))
            refine ⟨ys ++ [y], es ++ cs, by simp [g1], by simp [g2, k1, h1, Nat.succ_mul], fun hs => ?_, RepL.append _ _ _ _ [] [] g4 ⟨cs, [], [], [], by simp, rfl, hy, rfl, rfl⟩, fun z hz => ?_⟩
            · refine At.append.2 ⟨g3 hs, ?_⟩
              obtain ⟨bb, oo, ss⟩ := a
              dsimp only at hs
              subst hs
              have := k3 (by rw [add_plain])
              rw [add_plain] at this
              rw [g2, ← h1]
              exact this
            · rcases List.mem_append.1 hz with hz | hz
              · exact g5 z hz
              · simp only [List.mem_singleton] at hz; subst hz; exact hfy
        obtain ⟨ys, es, g1, g2, g3, g4, g5⟩ := build len (Nat.le_refl _)
        have hm : cap ≤ 9223372036854775807 := hcm
        refine ⟨ys, ⟨rfl, some a, cap, by rw [g1], by rw [g1]; exact hlc, by rw [g1]; omega, ?_⟩, by rw [← g1] at hlen2; exact ⟨hlen2, g5⟩⟩
        by_cases h0 : len = 0
        · left; exact List.length_eq_zero_iff.1 (by omega)
        · right
          obtain ⟨s1, s2⟩ := hspot (by omega)
          refine ⟨a.block, a.off, es, ?_, trivial, s2, g3 s1, g4⟩
          obtain ⟨bb, oo, ss⟩ := a
          dsimp only at s1
          subst s1
          rfl
    · simp at h
  | .pr a b => by
    have iha := (opens a).1
    have ihb := (opens b).2
    have chain : ∀ (fs : List Field) (off n : Nat) (cs : List Value) (xs : List (DataW H × List MemPlace)), (tokF P (.pr a b)).2 fs off = true → xs.length = fs.length →
        (∀ (i : Nat) (f : Field), fs[i]? = some f → DataW.trod enc P W base spare held n f.type ((cs.drop f.offset).take (P.cellsOf f.type)) = xs[i]?) → (∀ m ∈ DataW.weightsEach P (fs.map (·.type)) (xs.map (·.1)), m ≤ reachBytes) → cs.length = off + (Ty.pr a b).width →
        ∃ y, Rep W (fun _ => True) (.pr a b) .no y (cs.drop off) [] ∧ Fits (.pr a b) y := by
      intro fs off n cs xs h hl hf hw hc
      simp only [tokF] at h
      cases fs with
      | nil => simp at h
      | cons f fs =>
        simp only [Bool.and_eq_true] at h
        obtain ⟨h1, h2, h3, h4⟩ := h
        have h1 := nbeq.1 h1
        have h2 := nbeq.1 h2
        simp only [Ty.width] at hc
        cases xs with
        | nil => simp at hl
        | cons x xs =>
          have hfx := hf 0 f rfl
          simp only [List.getElem?_cons_zero] at hfx
          simp only [List.map_cons, DataW.weightsEach, List.mem_append] at hw
          obtain ⟨y1, r1, q1⟩ := iha f.type n _ x h3 hfx fun m hm => hw m (.inl hm)
          obtain ⟨y2, r2, q2⟩ := ihb fs (off + a.width) n cs xs h4 (by simpa using hl) (fun i f' hi => by
            have := hf (i + 1) f' (by simpa using hi)
            simpa using this) (fun m hm => hw m (.inr hm)) (by omega)
          refine ⟨(y1, y2), ⟨_, _, [], [], ?_, rfl, r1, r2⟩, q1, q2⟩
          rw [h1, h2, ← List.drop_drop]
          exact (List.take_append_drop _ _).symm
    refine ⟨fun tid n cs x h hx hwt => ?_, chain⟩
    have h' := h
    simp only [tokF] at h'
    split at h'
    · rename_i fs hu
      simp only [Bool.and_eq_true] at h'
      have hcell := nbeq.1 h'.1
      obtain ⟨xs, m, rfl, rfl, hl, hxl, hf⟩ := DataW.trod_struct hu hx
      obtain ⟨y, r, q⟩ := chain fs.toList 0 m cs xs h'.2 (by simpa using hxl) (fun i f hi => hf i f (by rw [← Array.getElem?_toList]; exact hi)) (by simpa only [DataW.weights, hu] using hwt) (by rw [hl, hcell, Nat.zero_add]; rfl)
      exact ⟨y, by simpa using r, q⟩
    · simp at h'
  | .bx t => ⟨fun tid n cs x h => by simp [tokF] at h, fun fs off n cs xs h => by simp [tokF] at h⟩
  | .arr n t => ⟨fun tid n cs x h => by simp [tokF] at h, fun fs off n cs xs h => by simp [tokF] at h⟩
  | .fn f c => ⟨fun tid n cs x h => by simp [tokF] at h, fun fs off n cs xs h => by simp [tokF] at h⟩
end
end Go.Rex

/-! Laws: types checked; from a summary to the row. -/
set_option linter.unusedSimpArgs false
set_option linter.unusedVariables false
namespace Go.Rex

/-! ### The table of types, checked -/
def valZ : Value → Value → Bool
  | .int k a, .int k' b => kindEqb k k' && decide (a = b)
  | .bool a, .bool b => match a, b with
    | true, true => true
    | false, false => true
    | _, _ => false
  | .string a, .string b => Nat.beq a.size 0 && Nat.beq b.size 0
  | .slice none 0 0, .slice none 0 0 => true
  | _, _ => false
def valsZ : List Value → List Value → Bool
  | [], [] => true
  | a :: l, b :: k => valZ a b && valsZ l k
  | _, _ => false
theorem valZ_eq {a b : Value} (h : valZ a b = true) : a = b := by
  unfold valZ at h
  split at h
  · simp only [Bool.and_eq_true, decide_eq_true_eq] at h
    rw [kindEqb_eq h.1, h.2]
  · split at h <;> simp_all
  · rename_i s t
    simp only [Bool.and_eq_true] at h
    have h1 := nbeq.1 h.1
    have h2 := nbeq.1 h.2
    have : s = t := by
      obtain ⟨⟨l⟩⟩ := s
      obtain ⟨⟨k⟩⟩ := t
      simp only [ByteArray.size, List.size_toArray] at h1 h2
      have h1 := List.length_eq_zero_iff.1 h1
      have h2 := List.length_eq_zero_iff.1 h2
      subst h1
      subst h2
      rfl
    rw [this]
  · rfl
  · simp at h
theorem valsZ_eq : ∀ {l k : List Value}, valsZ l k = true → l = k
  | [], [], _ => rfl
  | [], _ :: _, h => by simp [valsZ] at h
  | _ :: _, [], h => by simp [valsZ] at h
  | a :: l, b :: k, h => by
    simp only [valsZ, Bool.and_eq_true] at h
    rw [valZ_eq h.1, valsZ_eq h.2]
def beqB : Bool → Bool → Bool
  | true, true => true
  | false, false => true
  | _, _ => false
theorem beqB_eq {a b : Bool} (h : beqB a b = true) : a = b := by cases a <;> cases b <;> simp_all [beqB]
def fieldsB (P : Program) : List Field → Ty → Nat → Bool
  | f :: fs, .pr a b, off => Nat.beq f.offset off && ((match P.info? f.type with | some i => Nat.beq i.size a.width | none => false) && (nott (Nat.beq a.width 0) && ((match P.underlying f.type with | some df => beqB (aggD df) a.isAgg | none => false) &&
      fieldsB P fs b (Nat.add off a.width))))
  | [], .nl, _ => true
  | _, _, _ => false
def descB (P : Program) (row : TRow) (d : TypeDesc) : Bool := match row.d, d with
  | .slice e, .slice e' => Nat.beq e e'
  | .strct offs, .struct fs => Nat.beq fs.size (lenL offs) && (Nat.beq (chainLen row.ty) (lenL offs) && fieldsB P fs.toList row.ty 0)
  | .array n e, .array n' e' => Nat.beq n n' && Nat.beq e e'
  | .other, _ => true
  | _, _ => false
def baseB (P : Program) (ty : Ty) (d : TypeDesc) : Bool := match ty with
  | .bool => match d with
    | .bool => true
    | _ => false
  | .int k => match d with
    | .int k' => kindEqb k k'
    | _ => false
  | .str => match d with
    | .string => true
    | _ => false
  | .sl u => match d with
    | .slice e => match P.underlying e with
      | some de => match u with
        | .int k => match de with
          | .int k' => kindEqb k k'
          | _ => false
        | _ => true
      | none => false
    | _ => false
  | _ => true
def zeroB (row : TRow) (z : Option Value) : Bool := nott row.ty.zok || (match z with | some z => valsZ z.cells.toList (zcells row.ty) | none => false)
def rowB (P : Program) (t : TypeId) (row : TRow) : Bool := match P.info? t with
  | some i => match P.underlying t with
    | some d => Nat.beq i.size row.ty.width && (Nat.beq i.bytes row.bytes && (zeroB row i.zero && (beqB (aggD d) row.ty.isAgg && (descB P row d && (baseB P row.ty d && (Nat.ble row.bytes 32768 && Nat.blt 0 row.bytes))))))
    | none => false
  | none => false
def tiB (P : Program) : TI → Bool
  | [] => true
  | (t, row) :: l => rowB P t row && tiB P l

theorem fieldsB_ok {P : Program} : ∀ {fs : List Field} {ty : Ty} {off : Nat}, fieldsB P fs ty off = true → ∀ j, j < fs.length → ∃ (f : Field) (k : Nat × Ty) (i : TypeInfo) (df : TypeDesc), fs[j]? = some f ∧ offOf ty j = some k ∧ f.offset = off + k.1 ∧
    P.info? f.type = some i ∧ i.size = k.2.width ∧ k.2.width ≠ 0 ∧ P.underlying f.type = some df ∧ aggD df = k.2.isAgg
  | [], ty, off, h, j, hj => by simp at hj
  | f :: fs, ty, off, h, j, hj => by
    cases ty <;> simp only [fieldsB] at h <;> try (simp at h; done)
    rename_i a b
    simp only [Bool.and_eq_true] at h
    obtain ⟨h1, h2, h3, h4, h5⟩ := h
    cases j with
    | zero =>
      cases hi : P.info? f.type with
      | none => rw [hi] at h2; simp at h2
      | some i =>
      rw [hi] at h2
      cases hu : P.underlying f.type with
      | none => rw [hu] at h4; simp at h4
      | some df =>
      rw [hu] at h4
      exact ⟨f, (0, a), i, df, rfl, rfl, nbeq.1 h1, hi, nbeq.1 h2, nbeq_false.1 (nott_eq h3), hu, beqB_eq h4⟩
    | succ j =>
      obtain ⟨f', k, i, df, g1, g2, g3, g4⟩ := fieldsB_ok h5 j (by simpa using hj)
      refine ⟨f', (k.1 + a.width, k.2), i, df, by simpa using g1, by simp [offOf, g2], ?_, g4⟩
      have : f'.offset = off + a.width + k.1 := g3
      dsimp only
      omega
theorem offOf_chain : ∀ {ty : Ty} {j : Nat} {k : Nat × Ty}, offOf ty j = some k → j < chainLen ty
  | .pr a b, 0, k, h => by simp [chainLen]
  | .pr a b, j + 1, k, h => by
    simp only [offOf, Option.map_eq_some_iff] at h
    obtain ⟨k', h, _⟩ := h
    have := offOf_chain h
    simp only [chainLen]; omega
  | .int _, j, k, h => by cases j <;> simp [offOf] at h
  | .bool, j, k, h => by cases j <;> simp [offOf] at h
  | .str, j, k, h => by cases j <;> simp [offOf] at h
  | .nl, j, k, h => by cases j <;> simp [offOf] at h
  | .sl _, j, k, h => by cases j <;> simp [offOf] at h
  | .bx _, j, k, h => by cases j <;> simp [offOf] at h
  | .arr _ _, j, k, h => by cases j <;> simp [offOf] at h
  | .fn _ _, j, k, h => by cases j <;> simp [offOf] at h
theorem rowB_ok {P : Program} {t : TypeId} {row : TRow} (h : rowB P t row = true) : RowOK P t row := by
  unfold rowB at h
  split at h
  · rename_i i hi
    split at h
    · rename_i d hd
      simp only [Bool.and_eq_true] at h
      obtain ⟨h1, h2, h3, h4, h5, h6, h7, h8⟩ := h
      refine ⟨⟨i, hi, nbeq.1 h1, nbeq.1 h2, fun hz => ?_⟩, ⟨d, hd, beqB_eq h4, ?_⟩, fun d' hd' => ?_, Nat.le_of_ble_eq_true h7, by simpa using h8⟩
      · unfold zeroB at h3
        rw [hz] at h3
        simp only [nott, Bool.false_or] at h3
        split at h3
        · rename_i z hzz
          exact ⟨z, hzz, valsZ_eq h3⟩
        · simp at h3
      · unfold descB at h5
        split at h5
        · rename_i e e' hrd
          rw [hrd]; rw [nbeq.1 h5]
        · rename_i offs fs hrd
          rw [hrd]
          simp only [Bool.and_eq_true] at h5
          obtain ⟨q1, q2, q3⟩ := h5
          have q1 := nbeq.1 q1
          have q2 := nbeq.1 q2
          refine ⟨fs, rfl, ⟨by omega, fun j k hk => by have := offOf_chain hk; omega⟩, fun j hj => ?_⟩
          obtain ⟨f, k, i, df, g1, g2, g3, g4⟩ := fieldsB_ok q3 j (by simp; omega)
          exact ⟨f, k, i, df, by rw [← Array.getElem?_toList]; exact g1, g2, by rw [g3, Nat.zero_add], g4⟩
        · rename_i n e n' e' hrd
          rw [hrd]
          simp only [Bool.and_eq_true] at h5
          rw [nbeq.1 h5.1, nbeq.1 h5.2]
        · rename_i hrd
          rw [hrd]; trivial
        · simp at h5
      · rw [hd] at hd'
        obtain rfl := Option.some.inj hd'
        unfold baseB at h6
        refine ⟨fun hb => ?_, fun k hk => ?_, fun hs => ?_, fun u hu => ?_⟩
        · rw [hb] at h6
          dsimp only at h6
          split at h6 <;> simp_all
        · rw [hk] at h6
          dsimp only at h6
          split at h6
          · rw [kindEqb_eq h6]
          · simp at h6
        · rw [hs] at h6
          dsimp only at h6
          split at h6 <;> simp_all
        · rw [hu] at h6
          dsimp only at h6
          split at h6
          · rename_i e
            refine ⟨e, rfl, ?_⟩
            split at h6
            · rename_i de hde
              refine ⟨by rw [hde]; simp, fun k hk => ?_⟩
              subst hk
              dsimp only at h6
              split at h6
              · rw [hde, kindEqb_eq h6]
              · simp at h6
            · simp at h6
          · simp at h6
    · simp at h
  · simp at h
theorem tiB_ok {P : Program} : ∀ {ti : TI}, tiB P ti = true → ∀ t row, lk ti t = some row → RowOK P t row
  | [], _, t, row, h => by simp [lk] at h
  | (t', row') :: l, h, t, row, hl => by
    simp only [tiB, Bool.and_eq_true] at h
    unfold lk at hl
    cases hk : Nat.beq t' t <;> rw [hk] at hl
    · exact tiB_ok h.2 t row hl
    · simp only [cond_true, Option.some.injEq] at hl
      subst hl
      rw [← nbeq.1 hk]
      exact rowB_ok h.1

/-! ### Laws -/
@[reducible] def rds : List Ty → List PM
  | [] => []
  | t :: l => .rd t :: rds l
def FitsAll : (l : List Ty) → dens (rds l) → Prop
  | [], _ => True
  | t :: l, x => Fits t x.1 ∧ FitsAll l x.2
def finU : (l : List Ty) → fins (rds l)
  | [] => ()
  | _ :: l => finU l
/-- A law's summary. -/
@[reducible] def lawS (tys : List Ty) (g : dens (rds tys) → Option Bool) : Summ := ⟨rds tys, .bool, .no, 1, Bool, g, fun b => b, fun _ => finU tys⟩
def tokAll (P : Program) : List Ty → List TypeId → Bool
  | [], [] => true
  | t :: l, i :: k => (tokF P t).1 i && (P.readableRec i && (Nat.blt i P.types.size && tokAll P l k))
  | _, _ => false
def noBs : List Ty → List (List Nat)
  | [] => []
  | _ :: l => [] :: noBs l
theorem noBs_flat : ∀ l, (noBs l).flatten = []
  | [] => rfl
  | _ :: l => by simp [noBs, noBs_flat l]

section
variable {H : Type} {enc : TypeId × Value → H} {P : Program} {W : World}

theorem pack_open {t : Ty} {tid : TypeId} {v : Value} {r : Reach} {b0 : Nat} (h : (tokF P t).1 tid = true) (hv : Value.okWide P W r b0 tid v) : pack t v.cells.toList = v := by
  cases t <;> simp only [tokF] at h <;> try (simp at h; done)
  case int k =>
    split at h
    · rename_i hu
      obtain ⟨n, rfl⟩ := Go.WideShapes.okWide_int hu hv
      rfl
    · simp at h
  case bool =>
    split at h
    · rename_i hu
      obtain ⟨n, rfl⟩ := Go.WideShapes.okWide_bool hu hv
      rfl
    · simp at h
  case str =>
    split at h
    · rename_i hu
      obtain ⟨n, rfl⟩ := Go.WideShapes.okWide_string hu hv
      rfl
    · simp at h
  case sl u =>
    split at h
    · rename_i e hu
      obtain ⟨a, n, c, rfl⟩ := Go.WideShapes.okWide_slice hu hv
      rfl
    · simp at h
  case pr a b =>
    split at h
    · rename_i fs hu
      unfold Value.okWide at hv
      rw [hu] at hv
      obtain ⟨cs, rfl, _⟩ := hv
      simp [pack, Ty.isAgg, Value.cells]
    · simp at h

theorem args_open : ∀ (tys : List Ty) (ts : List TypeId) (vs : List Value) (ds : List (DataW H)) (ps : List MemPlace), tokAll P tys ts = true → DataW.TrodAll enc P W 0 (fun _ => true) true ts vs ds ps →
    (∀ (j : Nat) t v, ts[j]? = some t → vs[j]? = some v → ∃ r b0, Value.okWide P W r b0 t v) → (∀ m ∈ DataW.weightsEach P ts ds, m ≤ reachBytes) →
    ds.length = tys.length ∧ ∃ (x : dens (rds tys)) (cl : List (List Value)), ArgsRep W (fun _ => True) (rds tys) x cl (noBs tys) ∧ argVals (rds tys) cl = vs ∧ FitsAll tys x
  | [], [], [], [], ps, _, _, _, _ => ⟨rfl, (), [], trivial, rfl, trivial⟩
  | [], [], _ :: _, _, ps, _, h, _, _ => by simp [DataW.TrodAll] at h
  | [], [], [], _ :: _, ps, _, h, _, _ => by simp [DataW.TrodAll] at h
  | [], _ :: _, _, _, ps, h, _, _, _ => by simp [tokAll] at h
  | _ :: _, [], _, _, ps, h, _, _, _ => by simp [tokAll] at h
  | ty :: tys, t :: ts, vs, ds, ps, htk, h, hval, hwt => by
    obtain ⟨v, vs', d, ds', p, q, rfl, rfl, rfl, h1, h2⟩ := Go.ChangeShapes.trodAll_cons h
    simp only [tokAll, Bool.and_eq_true] at htk
    simp only [DataW.weightsEach, List.mem_append] at hwt
    obtain ⟨g0, x, cl, g1, g2, g3⟩ := args_open tys ts vs' ds' q htk.2.2.2 h2 (fun j t v ht hv => hval (j + 1) t v (by simpa using ht) (by simpa using hv)) (fun m hm => hwt m (.inr hm))
    obtain ⟨fuel, hf⟩ := h1
    obtain ⟨y, r, fy⟩ := (opens (enc := enc) (P := P) (W := W) (base := 0) (spare := fun _ => true) (held := true) ty).1 t fuel v.cells.toList (d, p) htk.1 hf (fun m hm => hwt m (.inl hm))
    obtain ⟨rr, b0, hv⟩ := hval 0 t v rfl rfl
    refine ⟨by simp [g0], (y, x), v.cells.toList :: cl, ⟨r, g1⟩, ?_, fy, g3⟩
    show pvals (.rd ty) v.cells.toList ++ argVals (rds tys) cl = v :: vs'
    simp only [pvals, pack_open htk.1 hv, g2, List.singleton_append]

theorem trodAll_below (hl : laidOutB P = true) {W' : World} (hb : Go.RowKit.Below W.heap.size W W') : ∀ (tys : List Ty) (ts : List TypeId) (vs : List Value) (ds : List (DataW H)) (ps : List MemPlace), tokAll P tys ts = true → DataW.TrodAll enc P W 0 (fun _ => true) true ts vs ds ps →
    DataW.TrodAll enc P W' 0 (fun b => decide (b < W.heap.size)) true ts vs ds ps
  | [], [], vs, ds, ps, _, h => by
    cases vs <;> cases ds <;> simp_all [DataW.TrodAll]
  | [], _ :: _, _, _, ps, h, _ => by simp [tokAll] at h
  | _ :: _, [], _, _, ps, h, _ => by simp [tokAll] at h
  | ty :: tys, t :: ts, vs, ds, ps, htk, h => by
    have hlt := DataW.TrodAll.lt h
    obtain ⟨v, vs', d, ds', p, q, rfl, rfl, rfl, h1, h2⟩ := Go.ChangeShapes.trodAll_cons h
    simp only [tokAll, Bool.and_eq_true] at htk
    exact ⟨p, q, Go.RowKit.Below.trod hl htk.2.1 (by simpa using htk.2.2.1) h1 hb (fun x hx => hlt x (by simp [hx])), trodAll_below hl hb tys ts vs' ds' q htk.2.2.2 h2, rfl⟩

theorem law_calls {f : FuncId} {tys : List Ty} {g : dens (rds tys) → Option Bool} (hS : SummC P f (lawS tys g)) (hg : ∀ x, FitsAll tys x → g x = some true) {ts : List TypeId} {args : Array Value} {ds : List (DataW H)} {ps : List MemPlace}
    (htk : tokAll P tys ts = true) (h : DataW.TrodAll enc P W 0 (fun _ => true) true ts args.toList ds ps) (hval : ∀ (j : Nat) t v, ts[j]? = some t → args[j]? = some v → ∃ r b0, Value.okWide P W r b0 t v) (hwt : ∀ m ∈ DataW.weightsEach P ts ds, m ≤ reachBytes) :
    ds.length = tys.length ∧ Calls P f args W fun e W' => e = .returned (.bool true) ∧ Go.RowKit.Below W.heap.size W W' := by
  obtain ⟨h0, x, cl, h1, h2, h3⟩ := args_open tys ts args.toList ds ps htk h (fun j t v ht hv => hval j t v ht (by rw [← Array.getElem?_toList]; exact hv)) hwt
  have := hS.2 W (fun _ => True) x cl (noBs tys) true h1 (by rw [noBs_flat]; simp) (by rw [noBs_flat]; simp) (hg x h3)
  rw [show (argVals (lawS tys g).ps cl).toArray = args by rw [h2]] at this
  refine ⟨h0, this.mono fun e W' he => ?_⟩
  cases e with
  | returned v =>
    obtain ⟨hext, cr, br, bf, _, hr, _, _, hv⟩ := he
    obtain ⟨hbr, hcr⟩ := hr
    subst hcr
    refine ⟨by rw [show v = _ from hv]; rfl, ⟨hext.os, hext.tape, hext.output, hext.size, fun k hk => hext.same k hk ?_⟩⟩
    rw [noBs_flat]; simp
  | _ => exact he.elim

/-- The row's own form. -/
theorem law_lifted {C : Checked} {os : Os} {f : FuncId} {fn : Func} {s : ChangeSpec} {bt : TypeId} (own : ownKnob C.prog.godebug = none) (started : os.Started) (noInit : C.prog.inits.idxOf? f = none) (hfn : C.prog.funcs[f]? = some fn)
    (witness : ∃ (w : World) (tape : Tape) (i : Input), w.os = os ∧ (w.forCall tape i).Shaped C.prog ∧ i.vars = [] ∧ Input.okWide C.prog (w.forCall tape i) .any w.heap.size f i ∧
      s.pre6 enc C.prog fn [] false (w.forCall tape i).memory i.args ∧ ({} : Assume).holds C.prog (lone (Frame.enter C.prog f i.args .normal) [] (w.forCall tape i)))
    {tys : List Ty} {g : dens (rds tys) → Option Bool} (hS : SummC C.prog f (lawS tys g)) (hg : ∀ x, FitsAll tys x → g x = some true) (htk : tokAll C.prog tys fn.params.toList = true) (hvars : s.vars = []) (hrt : fn.resultTypes = #[bt]) (hbt : C.prog.underlying bt = some .bool)
    (hl : laidOutB C.prog = true) (hspec : ∀ ds : List (DataW H), ds.length = tys.length → (s.fn H ds).results = [.lit (.bool true)] ∧ (s.fn H ds).args = ds ∧ (s.fn H ds).vars = []) :
    ReturnsInHanded {} C os f .any (s.pre6 enc C.prog fn [] false) (s.post enc C.prog fn false true false false) := by
  refine returnsInHanded_of_change_sized own started noInit hfn witness ?_
  intro W base args ds gs before hval hW _ hsz _
  have hW' := hW
  obtain ⟨p, q, hA, hV, rfl, hfz, _⟩ := hW
  rw [hvars] at hV
  obtain ⟨rfl, rfl⟩ := Go.ChangeShapes.trodVars_none hV
  have hvt : s.plain.varTypes C.prog = [] := by
    have : s.plain.vars = [] := hvars
    simp [DataSpec.varTypes, this]
  rw [hvt, List.append_nil, List.append_nil] at hsz
  obtain ⟨h0, hc⟩ := law_calls (enc := enc) hS hg htk hA (fun j t v ht hv => ⟨_, _, hval j t v (by rw [← Array.getElem?_toList]; exact ht) hv⟩) (fun m hm => by have := List.all_eq_true.1 hsz m hm; simpa using this)
  refine hc.mono fun e W' ⟨he, bel⟩ => ?_
  subst he
  obtain ⟨s1, s2, s3⟩ := hspec ds h0
  refine ⟨_, rfl, ds, [], _, [], p, [], hW', ?_, ?_, ?_, bel.frame _, fun h => by cases h⟩
  · rw [List.append_nil, s1, hrt]
    exact Go.ChangeShapes.trodAll_mk1 (Go.RowKit.shut_bool hbt _)
  · rw [List.append_nil, s2]
    exact trodAll_below hl bel tys _ _ _ _ htk hA
  · rw [List.append_nil, s3, hvars]; rfl
end
end Go.Rex
namespace Go.Rex
/-! ### For the functions' texts -/
def TOK (P : Program) : List (Nat × Summ) → Prop
  | [] => True
  | (f, s) :: l => SummOK P f s ∧ TOK P l
theorem TOK.fns {P : Program} : ∀ {l : List (Nat × Summ)}, TOK P l → ∀ f s, (f, s) ∈ l → SummOK P f s
  | [], _, f, s, h => by simp at h
  | (g, r) :: l, h, f, s, hm => by
    rcases List.mem_cons.1 hm with hm | hm
    · simp only [Prod.mk.injEq] at hm
      obtain ⟨rfl, rfl⟩ := hm
      exact h.1
    · exact TOK.fns h.2 f s hm
/-- The empty list of a type. -/
@[reducible] def eL (α : Type) : List α := []
def bodyOf (f : Func) : Code := f.body.getD .skip
end Go.Rex

/-! A closure's captures, one by one and as one. -/
set_option linter.unusedSimpArgs false
set_option linter.unusedVariables false
namespace Go.Rex
/-- What is captured, one by one. -/
def lnOf : Ty → Ow → List PM
  | .pr (.bx a) b, o => .ln (.bx a) o.fst :: lnOf b o.snd
  | _, _ => []
def lnX : (t : Ty) → (o : Ow) → t.den → dens (lnOf t o)
  | .pr (.bx a) b, o, x => (x.1, lnX b o.snd x.2)
  | .nl, _, _ => ()
  | .pr .nl _, _, _ | .pr (.int _) _, _, _ | .pr .bool _, _, _ | .pr .str _, _, _ | .pr (.pr _ _) _, _, _ | .pr (.sl _) _, _, _ | .pr (.arr _ _) _, _, _ | .pr (.fn _ _) _, _, _ => ()
  | .int _, _, _ | .bool, _, _ | .str, _, _ | .sl _, _, _ | .bx _, _, _ | .arr _ _, _, _ | .fn _ _, _, _ => ()
def lnY : (t : Ty) → (o : Ow) → fins (lnOf t o) → t.den
  | .pr (.bx a) b, o, y => (y.1, lnY b o.snd y.2)
  | .nl, _, _ => ()
  | .pr .nl b, _, _ => Ty.dflt (.pr .nl b)
  | .pr (.int k) b, _, _ => Ty.dflt (.pr (.int k) b)
  | .pr .bool b, _, _ => Ty.dflt (.pr .bool b)
  | .pr .str b, _, _ => Ty.dflt (.pr .str b)
  | .pr (.pr a c) b, _, _ => Ty.dflt (.pr (.pr a c) b)
  | .pr (.sl a) b, _, _ => Ty.dflt (.pr (.sl a) b)
  | .pr (.arr n a) b, _, _ => Ty.dflt (.pr (.arr n a) b)
  | .pr (.fn f a) b, _, _ => Ty.dflt (.pr (.fn f a) b)
  | .int k, _, _ => Ty.dflt (.int k)
  | .bool, _, _ => Ty.dflt .bool
  | .str, _, _ => Ty.dflt .str
  | .sl a, _, _ => Ty.dflt (.sl a)
  | .bx a, _, _ => Ty.dflt (.bx a)
  | .arr n a, _, _ => Ty.dflt (.arr n a)
  | .fn f a, _, _ => Ty.dflt (.fn f a)
def unb : List PM → List PM
  | [] => []
  | .bn t o :: _ => lnOf t o
  | .rd t :: l => .rd t :: unb l
  | .ln t o :: l => .ln t o :: unb l
  | .mv t o :: l => .mv t o :: unb l
def unbX : (ps : List PM) → dens ps → dens (unb ps)
  | [], _ => ()
  | .bn t o :: _, x => lnX t o x.1
  | .rd _ :: l, x => (x.1, unbX l x.2)
  | .ln _ _ :: l, x => (x.1, unbX l x.2)
  | .mv _ _ :: l, x => (x.1, unbX l x.2)
/-- Is the bundle, if there is one, the last? -/
def lastBn : List PM → Bool
  | [] => true
  | .bn t _ :: l => bxChain t && Nat.beq (lenL l) 0
  | _ :: l => lastBn l
def rebF : (ps : List PM) → fins (unb ps) → fins ps
  | [], _ => ()
  | .bn t o :: [], y => (lnY t o y, ())
  | .bn t o :: m :: l, y => (lnY t o y, finD (m :: l))
  | .rd _ :: l, y => rebF l y
  | .ln _ _ :: l, y => (y.1, rebF l y.2)
  | .mv _ _ :: l, y => rebF l y
where
  finD : (ps : List PM) → fins ps
  | [] => ()
  | .bn t _ :: l => (t.dflt, finD l)
  | .ln t _ :: l => (t.dflt, finD l)
  | .rd _ :: l => finD l
  | .mv _ _ :: l => finD l
def lnC : Ty → List Value → List (List Value)
  | .pr (.bx _) b, c => c.take 1 :: lnC b (c.drop 1)
  | _, _ => []
section
variable {P : Program} {w : World} {ok : Nat → Prop}
theorem ln_args : ∀ (t : Ty) (o : Ow) (x : t.den) (c : List Value) (b : List Nat), bxChain t = true → Rep w ok t o x c b →
    ∃ bl, ArgsRep w ok (lnOf t o) (lnX t o x) (lnC t c) bl ∧ argVals (lnOf t o) (lnC t c) = packs t c ∧ bl.flatten = b := by
  intro t
  induction t with
  | nl =>
    intro o x c b _ h
    obtain ⟨rfl, rfl⟩ : b = [] ∧ c = [] := h
    exact ⟨[], trivial, rfl, rfl⟩
  | pr a t _ ih =>
    cases a with
    | bx a =>
      intro o x c b hc h
      obtain ⟨c1, c2, b1, b2, rfl, rfl, h1, h2⟩ := h
      have hl : c1.length = 1 := Rep.len _ _ _ _ _ h1
      obtain ⟨bl, g1, g2, g3⟩ := ih o.snd x.2 c2 b2 hc h2
      have e1 : (c1 ++ c2).take 1 = c1 := by rw [← hl, List.take_left']; rfl
      have e2 : (c1 ++ c2).drop 1 = c2 := by rw [← hl, List.drop_left']; rfl
      refine ⟨b1 :: bl, ?_, ?_, by simp [g3]⟩
      · show ArgsRep w ok (.ln (.bx a) o.fst :: lnOf t o.snd) (x.1, lnX t o.snd x.2) ((c1 ++ c2).take 1 :: lnC t ((c1 ++ c2).drop 1)) (b1 :: bl)
        rw [e1, e2]
        exact ⟨h1, g1⟩
      · show pack (.bx a) ((c1 ++ c2).take 1) :: argVals (lnOf t o.snd) (lnC t ((c1 ++ c2).drop 1)) = pack (.bx a) ((c1 ++ c2).take (Ty.bx a).width) :: packs t ((c1 ++ c2).drop (Ty.bx a).width)
        have hw : (Ty.bx a).width = 1 := rfl
        rw [hw, e2, g2]
    | _ => intro o x c b hc; simp [bxChain] at hc
  | _ => intro o x c b hc; simp [bxChain] at hc
theorem ln_fins : ∀ (t : Ty) (o : Ow) (y : fins (lnOf t o)) (c : List Value) (bf : List (List Nat)), bxChain t = true → c.length = t.width → FinsRep w ok (lnOf t o) y (lnC t c) bf → Rep w ok t o (lnY t o y) c bf.flatten := by
  intro t
  induction t with
  | nl =>
    intro o y c bf _ hl h
    have hc : c = [] := List.eq_nil_of_length_eq_zero hl
    subst hc
    cases bf with
    | nil => exact ⟨rfl, rfl⟩
    | cons b bs => exact absurd h (by simp [lnOf, lnC, FinsRep])
  | pr a t _ ih =>
    cases a with
    | bx a =>
      intro o y c bf hc hl h
      cases bf with
      | nil => exact absurd h (by simp [lnOf, lnC, FinsRep])
      | cons b bs =>
        obtain ⟨h1, h2⟩ : Rep w ok (.bx a) o.fst y.1 (c.take 1) b ∧ FinsRep w ok (lnOf t o.snd) y.2 (lnC t (c.drop 1)) bs := h
        have hw : (Ty.pr (.bx a) t).width = 1 + t.width := rfl
        refine ⟨c.take 1, c.drop 1, b, bs.flatten, (List.take_append_drop 1 c).symm, rfl, h1, ih o.snd y.2 (c.drop 1) bs hc (by simp; omega) h2⟩
    | _ => intro o y c bf hc; simp [bxChain] at hc
  | _ => intro o y c bf hc; simp [bxChain] at hc
def unC : List PM → List (List Value) → List (List Value)
  | .bn t _ :: _, c :: _ => lnC t c
  | _ :: l, c :: cs => c :: unC l cs
  | _, _ => []
theorem unb_args : ∀ (ps : List PM) (x : dens ps) (cl : List (List Value)) (bl : List (List Nat)), lastBn ps = true → ArgsRep w ok ps x cl bl →
    ∃ bl', ArgsRep w ok (unb ps) (unbX ps x) (unC ps cl) bl' ∧ argVals (unb ps) (unC ps cl) = argVals ps cl ∧ bl'.flatten = bl.flatten
  | [], x, [], [], _, _ => ⟨[], trivial, rfl, rfl⟩
  | [], x, _ :: _, _, _, h => h.elim
  | [], x, [], _ :: _, _, h => h.elim
  | _ :: _, x, [], _, _, h => h.elim
  | _ :: _, x, _ :: _, [], _, h => h.elim
  | .bn t o :: [], x, c :: cl, b :: bl, hb, h => by
    obtain ⟨h1, h2⟩ := h
    cases cl with
    | cons _ _ => exact h2.elim
    | nil =>
    cases bl with
    | cons _ _ => exact h2.elim
    | nil =>
    simp only [lastBn, Bool.and_eq_true] at hb
    obtain ⟨bl', g1, g2, g3⟩ := ln_args t o x.1 c b hb.1 h1
    exact ⟨bl', g1, by simp only [unb, unC, g2, argVals, pvals, List.append_nil], by simp [g3]⟩
  | .bn t o :: m :: l, x, c :: cl, b :: bl, hb, h => by
    simp [lastBn, lenL] at hb
  | .rd t :: l, x, c :: cl, b :: bl, hb, h => by
    obtain ⟨bl', g1, g2, g3⟩ := unb_args l x.2 cl bl hb h.2
    exact ⟨b :: bl', ⟨h.1, g1⟩, by simp only [unb, unC, argVals, g2], by simp [g3]⟩
  | .ln t o :: l, x, c :: cl, b :: bl, hb, h => by
    obtain ⟨bl', g1, g2, g3⟩ := unb_args l x.2 cl bl hb h.2
    exact ⟨b :: bl', ⟨h.1, g1⟩, by simp only [unb, unC, argVals, g2], by simp [g3]⟩
  | .mv t o :: l, x, c :: cl, b :: bl, hb, h => by
    obtain ⟨bl', g1, g2, g3⟩ := unb_args l x.2 cl bl hb h.2
    exact ⟨b :: bl', ⟨h.1, g1⟩, by simp only [unb, unC, argVals, g2], by simp [g3]⟩
/-- The captures' cells are as many as their type says. -/
def LenBn : List PM → List (List Value) → Prop
  | .bn t _ :: _, c :: _ => c.length = t.width
  | _ :: l, _ :: cs => LenBn l cs
  | _, _ => True
theorem lenBn : ∀ (ps : List PM) (x : dens ps) (cl : List (List Value)) (bl : List (List Nat)), ArgsRep w ok ps x cl bl → LenBn ps cl
  | [], x, cl, bl, h => trivial
  | _ :: _, x, [], _, h => h.elim
  | _ :: _, x, _ :: _, [], h => h.elim
  | .bn t o :: l, x, c :: cl, b :: bl, h => Rep.len _ _ _ _ _ h.1
  | .rd t :: l, x, c :: cl, b :: bl, h => lenBn l x.2 cl bl h.2
  | .ln t o :: l, x, c :: cl, b :: bl, h => lenBn l x.2 cl bl h.2
  | .mv t o :: l, x, c :: cl, b :: bl, h => lenBn l x.2 cl bl h.2
theorem reb_fins : ∀ (ps : List PM) (y : fins (unb ps)) (cl : List (List Value)) (bf : List (List Nat)), lastBn ps = true → cl.length = ps.length → LenBn ps cl → FinsRep w ok (unb ps) y (unC ps cl) bf →
    ∃ bf', FinsRep w ok ps (rebF ps y) cl bf' ∧ bf'.flatten = bf.flatten
  | [], y, [], bf, _, _, _, h => by
    cases bf with
    | nil => exact ⟨[], trivial, rfl⟩
    | cons _ _ => exact absurd h (by simp [unb, unC, FinsRep])
  | [], y, _ :: _, bf, _, hl, _, h => by simp at hl
  | _ :: _, y, [], bf, _, hl, _, h => by simp at hl
  | .bn t o :: [], y, c :: cl, bf, hb, hl, hn, h => by
    simp only [lastBn, Bool.and_eq_true] at hb
    have := ln_fins t o y c bf hb.1 hn h
    cases cl with
    | nil => exact ⟨[bf.flatten], ⟨this, trivial⟩, by simp⟩
    | cons _ _ => simp at hl
  | .bn t o :: m :: l, y, c :: cl, bf, hb, hl, hn, h => by
    simp [lastBn, lenL] at hb
  | .rd t :: l, y, c :: cl, bf, hb, hl, hn, h => by
    cases bf with
    | nil => exact absurd h (by simp [unb, unC, FinsRep])
    | cons b bs =>
      obtain ⟨h1, h2⟩ : b = [] ∧ FinsRep w ok (unb l) y (unC l cl) bs := h
      obtain ⟨bf', g1, g2⟩ := reb_fins l y cl bs hb (by simpa using hl) hn h2
      exact ⟨b :: bf', ⟨h1, g1⟩, by simp [g2]⟩
  | .ln t o :: l, y, c :: cl, bf, hb, hl, hn, h => by
    cases bf with
    | nil => exact absurd h (by simp [unb, unC, FinsRep])
    | cons b bs =>
      obtain ⟨h1, h2⟩ : Rep w ok t o y.1 c b ∧ FinsRep w ok (unb l) y.2 (unC l cl) bs := h
      obtain ⟨bf', g1, g2⟩ := reb_fins l y.2 cl bs hb (by simpa using hl) hn h2
      exact ⟨b :: bf', ⟨h1, g1⟩, by simp [g2]⟩
  | .mv t o :: l, y, c :: cl, bf, hb, hl, hn, h => by
    cases bf with
    | nil => exact absurd h (by simp [unb, unC, FinsRep])
    | cons b bs =>
      obtain ⟨h1, h2⟩ : b = [] ∧ FinsRep w ok (unb l) y (unC l cl) bs := h
      obtain ⟨bf', g1, g2⟩ := reb_fins l y cl bs hb (by simpa using hl) hn h2
      exact ⟨b :: bf', ⟨h1, g1⟩, by simp [g2]⟩
theorem args_len : ∀ (ps : List PM) (x : dens ps) (cl : List (List Value)) (bl : List (List Nat)), ArgsRep w ok ps x cl bl → cl.length = ps.length
  | [], x, [], bl, h => rfl
  | [], x, _ :: _, bl, h => by cases bl <;> exact h.elim
  | _ :: _, x, [], _, h => h.elim
  | _ :: _, x, _ :: _, [], h => h.elim
  | m :: l, x, c :: cl, b :: bl, h => by simp [args_len l x.2 cl bl h.2]
/-- The summary whose captures come one by one serves where they come as one. -/
@[reducible] def bnSumm (ps : List PM) (rt : Ty) (ro : Ow) (n : Nat) (σ : Type) (fn : dens (unb ps) → Option σ) (res : σ → rt.den) (fin : σ → fins (unb ps)) : Summ :=
  ⟨ps, rt, ro, n, σ, fun x => fn (unbX ps x), res, fun y => rebF ps (fin y)⟩
theorem bn_ok {f : FuncId} {ps : List PM} {rt : Ty} {ro : Ow} {n : Nat} {σ : Type} {fn : dens (unb ps) → Option σ} {res : σ → rt.den} {fin : σ → fins (unb ps)} (hb : lastBn ps = true)
    (h : SummC P f ⟨unb ps, rt, ro, n, σ, fn, res, fin⟩) : SummC P f (bnSumm ps rt ro n σ fn res fin) := by
  refine ⟨h.1, fun w ok x cl bl y h1 h2 h3 h4 => ?_⟩
  obtain ⟨bl', g1, g2, g3⟩ := unb_args ps x cl bl hb h1
  have := h.2 w ok (unbX ps x) (unC ps cl) bl' y g1 (by rw [g3]; exact h2) (by rw [g3]; exact h3) h4
  rw [show (⟨unb ps, rt, ro, n, σ, fn, res, fin⟩ : Summ).ps = unb ps from rfl, g2, g3] at this
  refine this.mono fun e w' he => ?_
  cases e with
  | returned v =>
    obtain ⟨e1, cr, br, bf, k1, k2, k3, k4, k5⟩ := he
    obtain ⟨bf', q1, q2⟩ := reb_fins ps (fin y) cl bf hb (args_len ps x cl bl h1) (lenBn ps x cl bl h1) k1
    exact ⟨e1, cr, br, bf', by rw [q2]; exact q1, by rw [q2]; exact k2, by rw [q2]; exact k3, by rw [q2]; exact k4, k5⟩
  | _ => exact he.elim
end
end Go.Rex

/-! Plain Lean: what the functions' texts come to. -/
namespace Go.Rex
theorem inb_nat (i n : Nat) : inb (i : Int) n = decide (i < n) := by
  simp [inb]
theorem natOf_nat (i : Nat) : natOf (i : Int) = i := by simp [natOf]
theorem wrap_in {n : Int} (h1 : -9223372036854775808 ≤ n) (h2 : n ≤ 9223372036854775807) : IntKind.wrap IntKind.i64 n = n := IntWalk.i64_in n ⟨h1, h2⟩
theorem wrap_succ {i : Nat} (h : i ≤ 140737488351232) : IntKind.wrap IntKind.i64 ((i : Int) + 1) = ((i + 1 : Nat) : Int) := by
  rw [wrap_in (by omega) (by omega)]; rfl
theorem mkOK_nat {n : Nat} (h : n ≤ 4294967296) : mkOK (n : Int) (n : Int) = true := by
  simp [mkOK, lenOK, h]
theorem copyL_step {α : Type} {xs ys : List α} {i : Nat} (d : α) (hl : ys.length = xs.length) (hi : i < xs.length) (h : ∀ j, j < i → ys[j]? = xs[j]?) : ∀ j, j < i + 1 → (ys.set i (xs.getD i d))[j]? = xs[j]? := by
  intro j hj
  by_cases hji : j = i
  · subst hji
    rw [List.getElem?_set_self (by omega)]
    simp [List.getD, hi]
  · rw [List.getElem?_set_ne (Ne.symm hji)]
    exact h j (by omega)
theorem copyL_end {α : Type} {xs ys : List α} {i : Nat} (hl : ys.length = xs.length) (hi : xs.length ≤ i) (h : ∀ j, j < i → ys[j]? = xs[j]?) : ys = xs := by
  apply List.ext_getElem? 
  intro j
  by_cases hj : j < i
  · exact h j hj
  · rw [List.getElem?_eq_none (by omega), List.getElem?_eq_none (by omega)]
end Go.Rex
