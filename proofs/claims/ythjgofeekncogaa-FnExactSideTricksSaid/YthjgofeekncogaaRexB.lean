/- Proved here: lemmas on an evaluator for the code of a Go program and its soundness over the model (part 2 of 3); conditions: as each theorem states. -/
import Derived.Test.YthjgofeekncogaaRexA
set_option linter.all false
set_option linter.unusedSimpArgs false
set_option linter.unusedVariables false

/-! Arguments matched. -/
set_option linter.unusedSimpArgs false
set_option linter.unusedVariables false
namespace Go.Rex

theorem nott_eq {b : Bool} (h : nott b = true) : b = false := by cases b <;> simp_all [nott]
theorem appL_eq {α : Type} : ∀ (l q : List α), appL l q = l ++ q
  | [], q => rfl
  | s :: l, q => by simp [appL, appL_eq l q]
theorem memN_true {i : Nat} : ∀ {l : List Nat}, memN i l = true → i ∈ l
  | [], h => by simp [memN] at h
  | j :: l, h => by
    simp only [memN, Bool.or_eq_true] at h
    rcases h with h | h
    · rw [nbeq.1 h]; simp
    · exact List.mem_cons_of_mem _ (memN_true h)
theorem noDup_nodup : ∀ {l : List Nat}, noDup l = true → l.Nodup
  | [], _ => by simp
  | i :: l, h => by
    simp only [noDup, Bool.and_eq_true] at h
    exact List.nodup_cons.2 ⟨memN_false (nott_eq h.1), noDup_nodup h.2⟩
theorem disj_not : ∀ {l b : List Nat}, disj l b = true → ∀ i ∈ l, i ∉ b
  | [], b, _, i, hi => by simp at hi
  | j :: l, b, h, i, hi => by
    simp only [disj, Bool.and_eq_true] at h
    rcases List.mem_cons.1 hi with rfl | hi
    · exact memN_false (nott_eq h.1)
    · exact disj_not h.2 i hi

theorem packs_chain : ∀ (t : Ty) (c : List Value), bxChain t = true → c.length = t.width → packs t c = c
  | .nl, c, _, hl => by
    simp only [Ty.width] at hl
    rw [List.length_eq_zero_iff.1 hl]; rfl
  | .pr (.bx a) b, c, h, hl => by
    simp only [bxChain] at h
    simp only [Ty.width] at hl
    cases c with
    | nil => simp at hl; omega
    | cons v c =>
      simp only [packs, Ty.width]
      rw [packs_chain b _ h (by simp at hl ⊢; omega)]
      simp [pack, Ty.isAgg]

section
variable {P : Program} {Γ : Ctx} {S : Nat → Sl} {nt : Nt} {a : Act} {w : World}
variable {O : Nat → Option Root} {C : Nat → Bool} {cs : Nat → List Value} {bs : Nat → List Nat} {okC : Nat → Prop}

theorem bundle_sound (hp : StP Γ O w cs bs) (hC1 : ∀ b, okOf Γ O bs b → okC b) {rs : Roots} (hr : ∀ r R, lk rs r = some R → C r = false ∧ O r = some R) :
    ∀ (t : Ty) (o : Ow) (caps : List Nat) (x : t.den) (c : List Value), bundle t o caps rs = some x → c.length = caps.length → (∀ i (h : i < caps.length), ∀ R, O caps[i] = some R → c[i]? = some (pack R.t (cs caps[i]))) →
    ∃ b, HOK Γ w O C cs bs okC t o x c b caps (bundleUp t o caps rs)
  | .nl, o, [], x, c, h, hl, hv => by
    have : c = [] := List.length_eq_zero_iff.1 hl
    subst this
    refine ⟨[], ⟨rfl, rfl⟩, by simp, by simp, fun w' okR y b2 u hr hu => ?_⟩
    simp only [bundleUp, Option.some.injEq] at hu
    subst hu
    obtain ⟨rfl, _⟩ := hr
    exact ⟨[], rfl, by simp, rfl, by simp, rfl⟩
  | .pr (.bx a) t, o, r :: l, x, c, h, hl, hv => by
    simp only [bundle, Option.bind_eq_some_iff] at h
    obtain ⟨R, hR, h⟩ := h
    split at h
    case isFalse => simp at h
    rename_i hRt
    cases ho : Ow.eqb R.o o.fst
    · rw [ho] at h; simp at h
    rw [ho] at h
    simp only [cond_true, Option.bind_eq_some_iff, Option.some.injEq] at h
    obtain ⟨m, hm, rfl⟩ := h
    obtain ⟨hCr, hOr⟩ := hr r R hR
    obtain ⟨Rv, Rt, Ro, Rx⟩ := R
    dsimp only at hRt
    subst hRt
    have ho := Ow.eqb_eq ho
    dsimp only at ho
    subst ho
    have hrep := hp.rep r _ hOr
    dsimp only at hrep
    have hlen := Rep.len _ _ _ _ _ hrep
    have hv0 := hv 0 (by simp) _ hOr
    cases c with
    | nil => simp at hl
    | cons v c =>
    have hcs : cs r = [v] := by
      have h1 : (cs r).length = 1 := by rw [hlen]; rfl
      match hc : cs r, h1 with
      | [u], _ =>
        simp only [List.getElem_cons_zero, hc] at hv0
        simp only [pack, Ty.isAgg, cond_false, List.headD_cons, List.getElem?_cons_zero, Option.some.injEq] at hv0
        rw [hv0]
    obtain ⟨b, hh⟩ := bundle_sound hp hC1 hr t o.snd l m c hm (by simpa using hl) (fun i hi R' hR' => by
      have := hv (i + 1) (by simp; omega) R' (by simpa using hR')
      simpa using this)
    have hbr : ∀ z ∈ bs r, InL O C bs (r :: l) z := fun z hz => ⟨r, by simp, _, hOr, hCr, hz⟩
    refine ⟨bs r ++ b, ⟨⟨[v], c, bs r, b, rfl, rfl, ?_, hh.rep⟩, fun z hz => ?_, fun hnd => ?_, fun w' okR y b2 u hr2 hu => ?_⟩⟩
    · have := Rep.frame (w' := w) (ok' := okC) (fun b hb _ => ⟨hC1 b hb, rfl⟩) _ _ _ _ _ (fun _ _ => rfl) hrep
      rwa [hcs] at this
    · rcases List.mem_append.1 hz with hz | hz
      · exact hbr z hz
      · obtain ⟨r', h1, h2⟩ := hh.inl z hz
        exact ⟨r', by simp [h1], h2⟩
    · obtain ⟨h1, h2⟩ := List.nodup_cons.1 hnd
      refine List.nodup_append.2 ⟨hp.nodup r _ hOr, hh.nd h2, fun z hz y hy e => ?_⟩
      subst e
      obtain ⟨r', g1, R', g2, g3, g4⟩ := hh.inl z hy
      exact hp.sep r _ r' R' hOr g2 (fun e => h1 (e ▸ g1)) z hz g4
    · obtain ⟨c1, c2, d1, d2, e1, rfl, k1, k2⟩ := hr2
      have hl1 := Rep.len _ _ _ _ _ k1
      have : c1 = [v] ∧ c2 = c := by
        match c1, (show c1.length = 1 from hl1) with
        | [u], _ => simp only [List.cons_append, List.nil_append, List.cons.injEq] at e1; exact ⟨by rw [e1.1], e1.2.symm⟩
      obtain ⟨rfl, rfl⟩ := this
      simp only [bundleUp, hR, Option.bind_some, Option.bind_eq_some_iff, Option.some.injEq] at hu
      obtain ⟨u0, hu0, rfl⟩ := hu
      obtain ⟨Ld, g⟩ := hh.aft w' okR y.2 d2 u0 k2 hu0
      refine ⟨(r, ⟨⟨Rv + 1, .bx a, o.fst, y.1⟩, [], bs r, [], d1⟩) :: Ld, by simp [g.fst], fun q hq => ?_, by simp [g.u], fun z hz => ?_, by simp [g.b2]⟩
      · rcases List.mem_cons.1 hq with rfl | hq
        · refine ⟨hCr, ⟨_, hOr, by simp, by simp, ⟨rfl, by simp, fun hh => ⟨hh, ?_⟩, fun _ => rfl⟩⟩, fun ok' h1 h2 h4 => ?_⟩
          · dsimp only at hh ⊢
            cases hof : o.fst <;> simp [Ow.holds, hof] at hh ⊢
          · dsimp only
            rw [hcs]
            simp only [List.nil_append, List.append_nil]
            rcases h1 with h1 | h1
            · exact Rep.frame (fun b hb hlt => ⟨h1 b hb hlt, rfl⟩) _ _ _ _ _ (fun _ _ => rfl) k1
            · simp only [closed, Bool.and_eq_true] at h1
              exact Rep.closed _ _ _ _ _ (by simpa only [closed] using h1.1) k1
        · exact (g.li q hq).imp fun h1 => by simp only [closed, Bool.and_eq_true] at h1; exact h1.2
      · rcases List.mem_append.1 hz with hz | hz
        · right; simp [hz]
        · rcases g.b1 z hz with q | q
          · simp at q
          · right; simp only [List.map_cons, List.flatten_cons, List.mem_append]; exact .inr q
  | .nl, o, _ :: _, x, c, h, _, _ => by simp [bundle] at h
  | .int _, o, _, x, c, h, _, _ => by simp [bundle] at h
  | .bool, o, _, x, c, h, _, _ => by simp [bundle] at h
  | .str, o, _, x, c, h, _, _ => by simp [bundle] at h
  | .sl _, o, _, x, c, h, _, _ => by simp [bundle] at h
  | .bx _, o, _, x, c, h, _, _ => by simp [bundle] at h
  | .arr _ _, o, _, x, c, h, _, _ => by simp [bundle] at h
  | .fn _ _, o, _, x, c, h, _, _ => by simp [bundle] at h
  | .pr (.bx _) _, o, [], x, c, h, _, _ => by simp [bundle] at h
  | .pr (.int _) _, o, _, x, c, h, _, _ => by simp [bundle] at h
  | .pr .bool _, o, _, x, c, h, _, _ => by simp [bundle] at h
  | .pr .str _, o, _, x, c, h, _, _ => by simp [bundle] at h
  | .pr .nl _, o, _, x, c, h, _, _ => by simp [bundle] at h
  | .pr (.pr _ _) _, o, _, x, c, h, _, _ => by simp [bundle] at h
  | .pr (.sl _) _, o, _, x, c, h, _, _ => by simp [bundle] at h
  | .pr (.arr _ _) _, o, _, x, c, h, _, _ => by simp [bundle] at h
  | .pr (.fn _ _) _, o, _, x, c, h, _, _ => by simp [bundle] at h

/-- What is read: also what is someone's own. -/
theorem lookAt_sound (hp : StP Γ O w cs bs) (hC1 : ∀ b, okOf Γ O bs b → okC b) {rs : Roots} (hr : ∀ r R, lk rs r = some R → C r = false ∧ O r = some R) {want : Ty} {s : Sl} {v : Value} (hs : SlotOK w (okOf Γ O bs) O cs s v) {g : Foc × Bool} (hg : lookAt want s rs = some g)
    (hseen : g.2 = true → ∀ r ∈ rootOfSl s, ∀ R, O r = some R → C r = false → ∀ b ∈ bs r, okC b) : ∃ c, Rep w okC g.1.t .no g.1.x c [] ∧ v = pack g.1.t c ∧ g.1.o = .no := by
  cases s with
  | dt t x =>
    simp only [lookAt, Option.some.injEq] at hg
    subst hg
    obtain ⟨c, h1, rfl⟩ := hs
    exact ⟨c, Rep.frame (fun b hb _ => ⟨hC1 b hb, rfl⟩) _ _ _ _ _ (fun _ _ => rfl) h1, rfl, rfl⟩
  | nilS =>
    cases want <;> simp only [lookAt] at hg <;> try (simp at hg; done)
    simp only [Option.some.injEq] at hg
    subst hg
    exact ⟨[.slice none 0 0], ⟨rfl, none, 0, rfl, by simp, by simp, .inl rfl⟩, hs, rfl⟩
  | rf r ver p ix =>
    simp only [lookAt, Option.bind_eq_some_iff] at hg
    obtain ⟨R, hR, hg⟩ := hg
    cases hv : rfOK ver R p
    · rw [hv] at hg; simp at hg
    rw [hv] at hg
    cases hd : Ow.demotes (getAt p ix R.foc).t (getAt p ix R.foc).o
    · rw [hd] at hg; simp at hg
    rw [hd] at hg
    simp only [cond_true, Option.some.injEq] at hg
    subst hg
    obtain ⟨hC, hO⟩ := hr r R hR
    obtain ⟨L, hop, rfl⟩ := rf_open hp hs hO hv
    obtain ⟨⟨e1, e2⟩, e3, _, pre, b1, suf, hbs, e4, e5⟩ := place p ix R.foc (cs r) none (bs r) L (hp.rep r R hO) (hp.nodup r R hO) (fun b0 o0 h => by simp at h) hop.loc
    refine ⟨L.cs, ?_, by rw [e1], rfl⟩
    cases hpu : (getAt p ix R.foc).o.pure
    · refine Rep.demote hC1 _ _ _ _ _ hd (fun b hb => ?_) e4
      exact hseen (by simp [hpu, nott]) r (by simp [rootOfSl]) R hO hC b (by rw [hbs]; simp [hb])
    · have h5 := Rep.weaken _ _ _ _ _ _ (pure_le_no hpu) e4
      have := Rep.no_bs _ _ _ _ h5
      subst this
      exact Rep.frame (fun b hb _ => ⟨hC1 b hb, rfl⟩) _ _ _ _ _ (fun _ _ => rfl) h5
  | _ => simp [lookAt] at hg

theorem ownSlice_sound (hp : StP Γ O w cs bs) {rs : Roots} (hr : ∀ r R, lk rs r = some R → C r = false ∧ O r = some R) {s : Sl} {v : Value} (hs : SlotOK w (okOf Γ O bs) O cs s v) {q : Pl × Foc} (hq : ownSlice s rs = some q) :
    lk rs q.1.r = some q.1.R ∧ C q.1.r = false ∧ O q.1.r = some q.1.R ∧ q.2 = getAt q.1.p q.1.ix q.1.R.foc ∧ ∃ L, Opened Γ w O cs bs q.1.r q.1.R q.1.p q.1.ix L ∧ v = pack L.t L.cs := by
  cases s with
  | rf r ver p ix =>
    simp only [ownSlice, Option.bind_eq_some_iff] at hq
    obtain ⟨R, hR, hq⟩ := hq
    cases hv : rfOK ver R p
    · rw [hv] at hq; simp at hq
    rw [hv] at hq
    simp only [cond_true, Option.some.injEq] at hq
    subst hq
    obtain ⟨hC, hO⟩ := hr r R hR
    obtain ⟨L, hop, rfl⟩ := rf_open hp hs hO hv
    exact ⟨hR, hC, hO, rfl, L, hop, rfl⟩
  | _ => simp [ownSlice] at hq

end
end Go.Rex

/-! All arguments matched; the call. -/
set_option linter.unusedSimpArgs false
set_option linter.unusedVariables false
namespace Go.Rex

section
variable {P : Program} {Γ : Ctx} {S : Nat → Sl} {nt : Nt} {a : Act} {w : World}
variable {O : Nat → Option Root} {C : Nat → Bool} {cs : Nat → List Value} {bs : Nat → List Nat} {okC : Nat → Prop}

theorem hup_of {ps : List PM} {t : Ty} {up : fins ps → Option (List (Nat × Root))} {up0 : t.den → Option (List (Nat × Root))} {q : Pl} {o : Ow} (h0 : up0 = fun y => (lendUp q t o y).bind fun v => some [v]) (y : t.den × fins ps) (u : List (Nat × Root))
    (h : ((up y.2).bind fun u => (lendUp q t o y.1).bind fun v => some (v :: u)) = some u) : ∃ u0 u1, up0 y.1 = some u0 ∧ up y.2 = some u1 ∧ u = u0 ++ u1 := by
  subst h0
  simp only [Option.bind_eq_some_iff, Option.some.injEq] at h
  obtain ⟨u1, h1, v, h2, rfl⟩ := h
  exact ⟨[v], u1, by simp [h2], h1, rfl⟩

theorem matchArgs_sound (hp : StP Γ O w cs bs) (hC1 : ∀ b, okOf Γ O bs b → okC b) {rs : Roots} (hr : ∀ r R, lk rs r = some R → C r = false ∧ O r = some R) :
    ∀ (ps : List PM) (l : List Sl) (fs : List Foc) (its : List Item) (vss : List (List Value)) (m : Matched ps), MV ps fs its vss → (∀ i ∈ its, Rep w (okOf Γ O bs) i.f.t i.f.o i.f.x i.c i.b) → (∀ z ∈ blks its, ∀ r R, O r = some R → C r = false → z ∉ bs r) →
      AOKs w (okOf Γ O bs) O cs ps l vss → matchArgs ps l fs rs = some m → (∀ r ∈ m.seen, ∀ R, O r = some R → C r = false → ∀ b ∈ bs r, okC b) →
      ∃ cl bl, MOK Γ w O C cs bs okC ps m.xs m.upds m.lent its vss cl bl
  | [], l, fs, its, vss, m, hmv, hi, hI, hA, hm, hs => by
    cases l with
    | cons _ _ => simp [matchArgs] at hm
    | nil =>
    cases fs with
    | cons _ _ => simp [matchArgs] at hm
    | nil =>
    cases its with
    | cons _ _ => simp [MV] at hmv
    | nil =>
    cases vss with
    | cons _ _ => simp [MV] at hmv
    | nil =>
    simp only [matchArgs, Option.some.injEq] at hm
    subst hm
    refine ⟨[], [], trivial, rfl, by simp, by simp, fun w' okR y bf u h1 h2 => ?_⟩
    simp only [Option.some.injEq] at h2
    subst h2
    cases bf with
    | cons _ _ => exact h1.elim
    | nil => exact ⟨[], rfl, by simp, rfl, by simp, rfl⟩
  | pm :: ps, l, fs, its, vss, m, hmv, hi, hI, hA, hm, hs => by
    cases l with
    | nil => cases pm <;> simp [matchArgs] at hm
    | cons s l =>
    cases fs with
    | nil => cases pm <;> simp [matchArgs] at hm
    | cons f fs =>
    cases its with
    | nil => simp [MV] at hmv
    | cons i its =>
    cases vss with
    | nil => simp [MV] at hmv
    | cons v vss =>
    obtain ⟨hmv1, hmv⟩ := hmv
    obtain ⟨hA1, hA⟩ := hA
    have hi' : ∀ i ∈ its, Rep w (okOf Γ O bs) i.f.t i.f.o i.f.x i.c i.b := fun j hj => hi j (by simp [hj])
    have hI' : ∀ z ∈ blks its, ∀ r R, O r = some R → C r = false → z ∉ bs r := fun z hz => hI z (by simp [blks, hz])
    have hII : ∀ L, ∀ z ∈ i.b, ¬ InL O C bs L z := fun L z hz ⟨r, _, R, h1, h2, h3⟩ => hI z (by simp [blks, hz]) r R h1 h2 h3
    have ih := fun m' h1 h2 => matchArgs_sound hp hC1 hr ps l fs its vss m' hmv hi' hI' hA h1 h2
    cases pm with
    | rd t =>
      simp only [matchArgs, Option.bind_eq_some_iff] at hm
      obtain ⟨g, hg, hm⟩ := hm
      split at hm
      case isFalse => simp at hm
      rename_i ht
      simp only [Option.bind_eq_some_iff, Option.some.injEq] at hm
      obtain ⟨m', hm', rfl⟩ := hm
      have hseen' : ∀ r ∈ m'.seen, ∀ R, O r = some R → C r = false → ∀ b ∈ bs r, okC b := fun r hr' => hs r (by dsimp only; cases g.2 <;> simp [appL_eq, hr'])
      obtain ⟨cl, bl, h⟩ := ih m' hm' hseen'
      obtain ⟨v0, hv0, rfl⟩ := hA1
      obtain ⟨c, k1, rfl, _⟩ := lookAt_sound hp hC1 hr hv0 hg fun hg2 r hr' => hs r (by dsimp only; rw [hg2]; simp [appL_eq, hr'])
      simp only [isMv, Bool.false_eq_true, if_false] at hmv1
      subst hmv1
      obtain ⟨⟨ft, fo, fx⟩, fb⟩ := g
      dsimp only at ht k1 ⊢
      subst ht
      exact ⟨_, _, (h.plain (hII _)).1 ft fx k1 rfl⟩
    | mv t o =>
      simp only [matchArgs] at hm
      split at hm
      case isFalse => simp at hm
      rename_i ht
      cases hle : f.o.le o
      · rw [hle] at hm; simp at hm
      rw [hle] at hm
      simp only [cond_true, Option.bind_eq_some_iff, Option.some.injEq] at hm
      obtain ⟨m', hm', rfl⟩ := hm
      obtain ⟨cl, bl, h⟩ := ih m' hm' hs
      simp only [isMv, if_true] at hmv1
      obtain ⟨e1, e2⟩ := hmv1
      have hrep := hi i (by simp)
      rw [e1] at hrep
      obtain ⟨ft, fo, fx⟩ := f
      dsimp only at ht hle hrep e2 ⊢
      subst ht
      exact ⟨_, _, (h.plain (hII _)).2 ft o fx (Rep.frame (fun b hb _ => ⟨hC1 b hb, rfl⟩) _ _ _ _ _ (fun _ _ => rfl) (Rep.weaken _ _ _ _ _ _ hle hrep)) e2⟩
    | ln t o =>
      simp only [isMv, Bool.false_eq_true, if_false] at hmv1
      subst hmv1
      obtain ⟨v0, hv0, rfl⟩ := hA1
      have own : ((ownSlice s rs).bind fun q => if h : q.2.t = t then bif Ow.eqb q.2.o o then
        (matchArgs ps l fs rs).bind fun m => some (⟨((h ▸ q.2.x : t.den), m.xs), fun y => (m.upds y.2).bind fun u => (lendUp q.1 t o y.1).bind fun v => some (v :: u), q.1.r :: m.lent, m.seen⟩ : Matched (.ln t o :: ps)) else none else none) = some m →
          ∃ cl bl, MOK Γ w O C cs bs okC (.ln t o :: ps) m.xs m.upds m.lent (⟨junk, [], []⟩ :: its) ([v0] :: vss) cl bl := fun hm => by
        simp only [Option.bind_eq_some_iff] at hm
        obtain ⟨q, hq, hm⟩ := hm
        split at hm
        case isFalse => simp at hm
        rename_i ht
        cases hle : Ow.eqb q.2.o o
        · rw [hle] at hm; simp at hm
        rw [hle] at hm
        simp only [cond_true, Option.bind_eq_some_iff, Option.some.injEq] at hm
        obtain ⟨m', hm', rfl⟩ := hm
        obtain ⟨cl, bl, h⟩ := ih m' hm' hs
        obtain ⟨h1, h2, h3, h4, L, hop, rfl⟩ := ownSlice_sound hp hr hv0 hq
        obtain ⟨⟨pr, pR, pp, pix⟩, ft, fo, fx⟩ := q
        dsimp only at ht hle h1 h2 h3 h4 hop ⊢
        subst ht
        have hle := Ow.eqb_eq hle
        subst hle
        obtain ⟨b, hh⟩ := hok_own hp hC1 h3 h2 hop.loc h4.symm
        have := hop.t
        rw [← h4] at this
        dsimp only at this
        rw [this]
        exact ⟨_, _, (h.lent hp.sep rfl hI' hh (L1 := pr :: m'.lent) rfl (fun y u hu => hup_of rfl y u hu)).1 rfl⟩
      unfold matchArgs at hm
      split at hm
      · rename_i f0 c0 g0 caps
        cases hfg : (Nat.beq f0 g0 && nott (isHole o))
        · rw [hfg] at hm; simp at hm
        rw [hfg] at hm
        simp only [cond_true, Option.bind_eq_some_iff, Option.some.injEq] at hm
        simp only [Bool.and_eq_true] at hfg
        have := nbeq.1 hfg.1
        subst this
        obtain ⟨x, hx, m', hm', rfl⟩ := hm
        obtain ⟨cl, bl, h⟩ := ih m' hm' hs
        obtain ⟨cap, rfl, hl, hcv⟩ := hv0
        obtain ⟨b, hh⟩ := bundle_sound hp hC1 hr c0 o.cap caps x cap hx hl hcv
        have hoh : o ≠ .hole := fun e => by rw [e] at hfg; simp [isHole, nott] at hfg
        have hh' : HOK Γ w O C cs bs okC (.fn f0 c0) o x [.func (.func f0) #[] cap.toArray] b caps (bundleUp c0 o.cap caps rs) := by
          refine ⟨?_, hh.inl, hh.nd, fun w' okR y b2 u k1 k2 => ?_⟩
          · cases o with
            | hole => exact absurd rfl hoh
            | _ => exact ⟨cap.toArray, rfl, by simpa using hh.rep⟩
          · have k1' : Rep w' okR c0 o.cap y cap b2 := by
              cases o with
              | hole => exact absurd rfl hoh
              | _ =>
                obtain ⟨cap', e1, e2⟩ := k1
                simp only [List.cons.injEq, Value.func.injEq, and_true, true_and] at e1
                subst e1
                simpa using e2
            exact hh.aft w' okR y b2 u k1' k2
        refine ⟨_, _, (h.lent hp.sep rfl hI' hh' (L1 := appL caps m'.lent) (appL_eq _ _) (fun y u hu => ?_)).1 rfl⟩
        simp only [Option.bind_eq_some_iff, Option.some.injEq] at hu
        obtain ⟨u1, g1, u0, g2, rfl⟩ := hu
        exact ⟨u0, u1, g2, g1, appL_eq _ _⟩
      · exact own hm
    | bn t o =>
      simp only [isMv, Bool.false_eq_true, if_false] at hmv1
      subst hmv1
      obtain ⟨g0, cap, hv0, rfl⟩ := hA1
      simp only [matchArgs, Option.bind_eq_some_iff] at hm
      obtain ⟨q, hq, hm⟩ := hm
      obtain ⟨h1, h2, h3, h4, L, hop, hv⟩ := ownSlice_sound hp hr hv0 hq
      obtain ⟨⟨pr, pR, pp, pix⟩, ft, fo, fx⟩ := q
      dsimp only at h1 h2 h3 h4 hop hm ⊢
      cases ft <;> try (simp at hm; done)
      rename_i f0 c0
      dsimp only at hm
      cases hc : (bxChain t && nott (isHole fo) && Ow.eqb fo.cap o)
      · rw [hc] at hm; simp at hm
      rw [hc] at hm
      simp only [cond_true] at hm
      simp only [Bool.and_eq_true] at hc
      split at hm
      case isFalse => simp at hm
      rename_i ht
      simp only [Option.bind_eq_some_iff, Option.some.injEq] at hm
      obtain ⟨m', hm', rfl⟩ := hm
      obtain ⟨cl, bl, h⟩ := ih m' hm' hs
      subst ht
      have ho := Ow.eqb_eq hc.2
      subst ho
      have hoh : fo ≠ .hole := fun e => by rw [e] at hc; simp [isHole, nott] at hc
      have ht := hop.t
      have hLo := hop.o
      obtain ⟨b0, hLr⟩ := hop.rep
      rw [← h4] at ht hLr hLo
      dsimp only at ht hLr hLo
      have hLr2 : ∃ cap' : Array Value, L.cs = [.func (.func f0) #[] cap'] ∧ Rep w (okOf Γ O bs) c0 fo.cap fx cap'.toList b0 := by
        cases fo with
        | hole => exact absurd rfl hoh
        | _ => exact hLr
      obtain ⟨cap', hLc, hLr3⟩ := hLr2
      rw [ht, hLc] at hv
      simp only [pack, Ty.isAgg, cond_false, List.headD_cons, Value.func.injEq, Fn.func.injEq, true_and] at hv
      obtain ⟨rfl, rfl⟩ := hv
      have hloc : locate w (papp pp [.cp]) pix ⟨pR.t, pR.o, cs pr, none⟩ = some ⟨c0, fo.cap, cap.toList, none⟩ := by
        rw [locate_app, hop.loc]
        obtain ⟨Lt, Lo, Lcs, Lad⟩ := L
        dsimp only at ht hLo hLc
        subst ht hLo hLc
        simp [locate, hoh, cpOf]
      have hgt : getAt (papp pp [.cp]) pix pR.foc = ⟨c0, fo.cap, fx⟩ := by rw [getAt_app, ← h4]; rfl
      obtain ⟨b, hh⟩ := hok_own hp hC1 h3 h2 hloc hgt
      exact ⟨_, _, (h.lent hp.sep rfl hI' hh (L1 := pr :: m'.lent) rfl (fun y u hu => hup_of rfl y u hu)).2 (packs_chain _ _ hc.1.1 (Rep.len _ _ _ _ _ hLr3)).symm⟩

end
end Go.Rex

/-! The call. -/
set_option linter.unusedSimpArgs false
set_option linter.unusedVariables false
namespace Go.Rex

/-- What a called function comes to, be it the program's own or one that the model gives. -/
def Runs (P : Program) (f : FuncId) (args : Array Value) (w : World) (R : Value → World → Prop) : Prop :=
  ((callFunc f args).run P w = .ok (.enter f args) w ∧ Calls P f args w (fun e w' => match e with | .returned v => R v w' | _ => False)) ∨ ∃ v w', (callFunc f args).run P w = .ok (.value v) w' ∧ R v w'

def retv : Nat → Ty → List Value → Value → Prop
  | 0, _, _, _ => True
  | 1, t, c, v => v = pack t c
  | _, t, c, v => v = .tuple (packs t c).toArray
def okRet (Γ : Ctx) (own : List Nat) (b : Nat) : Prop := (Γ.ok0 b ∨ Γ.new b) ∧ b ∉ own
def Ret (s : Summ) (Γ : Ctx) (cl : List (List Value)) (y : s.σ) (v : Value) (w' : World) : Prop :=
  Ext Γ w' ∧ ∃ cr br bf, FinsRep w' (okRet Γ (br ++ bf.flatten)) s.ps (s.fin y) cl bf ∧ Rep w' (okRet Γ (br ++ bf.flatten)) s.rt s.ro (s.res y) cr br ∧
    (br ++ bf.flatten).Nodup ∧ (∀ b ∈ br ++ bf.flatten, Γ.new b) ∧ retv s.nres s.rt cr v
def SummOK (P : Program) (f : FuncId) (s : Summ) : Prop :=
  ∀ (w : World) (ok : Nat → Prop) (x : dens s.ps) (cl : List (List Value)) (bl : List (List Nat)) (y : s.σ), ArgsRep w ok s.ps x cl bl → bl.flatten.Nodup → (∀ b ∈ bl.flatten, ¬ ok b) → s.fn x = some y →
    Runs P f (argVals s.ps cl).toArray w (Ret s ⟨w, ok, bl.flatten, fun _ => undef⟩ cl y)

theorem lk_mem {β : Type} : ∀ {l : List (Nat × β)} {i : Nat} {v : β}, lk l i = some v → (i, v) ∈ l
  | [], i, v, h => by simp [lk] at h
  | (k, u) :: l, i, v, h => by
    simp only [lk] at h
    cases hk : Nat.beq k i <;> rw [hk] at h
    · exact List.mem_cons_of_mem _ (lk_mem h)
    · simp only [cond_true, Option.some.injEq] at h
      rw [nbeq.1 hk, h]; simp
theorem lk_of_mem {β : Type} : ∀ {l : List (Nat × β)} {i : Nat} {v : β}, (l.map (·.1)).Nodup → (i, v) ∈ l → lk l i = some v
  | [], i, v, _, h => by simp at h
  | (k, u) :: l, i, v, hn, h => by
    simp only [List.map_cons, List.nodup_cons] at hn
    simp only [lk]
    rcases List.mem_cons.1 h with h | h
    · simp only [Prod.mk.injEq] at h
      obtain ⟨rfl, rfl⟩ := h
      rw [nbeq.2 rfl]; rfl
    · have : k ≠ i := fun e => hn.1 (List.mem_map.2 ⟨(i, v), h, e.symm⟩)
      rw [nbeq_false.2 this]; exact lk_of_mem hn.2 h
theorem lk_flat {β : Type} {g : β → List Nat} : ∀ {l : List (Nat × β)} {i : Nat} {v : β}, lk l i = some v → ∀ b ∈ g v, b ∈ (l.map fun q => g q.2).flatten := fun h b hb => by
  rw [List.mem_flatten]
  exact ⟨_, List.mem_map.2 ⟨_, lk_mem h, rfl⟩, hb⟩
theorem lk_flat_nd {β : Type} {g : β → List Nat} : ∀ {l : List (Nat × β)}, (l.map fun q => g q.2).flatten.Nodup → ∀ {i : Nat} {v : β}, lk l i = some v → (g v).Nodup ∧ ∀ {j : Nat} {u : β}, lk l j = some u → i ≠ j → ∀ b ∈ g v, b ∉ g u
  | [], _, i, v, h => by simp [lk] at h
  | (k, x) :: l, hn, i, v, h => by
    simp only [List.map_cons, List.flatten_cons] at hn
    obtain ⟨h1, h2, h3⟩ := List.nodup_append.1 hn
    simp only [lk] at h
    cases hk : Nat.beq k i <;> rw [hk] at h
    · simp only [cond_false] at h
      obtain ⟨g1, g2⟩ := lk_flat_nd h2 h
      refine ⟨g1, fun {j u} hj hne b hb hb' => ?_⟩
      simp only [lk] at hj
      cases hkj : Nat.beq k j <;> rw [hkj] at hj
      · exact g2 hj hne b hb hb'
      · simp only [cond_true, Option.some.injEq] at hj
        subst hj
        exact h3 b hb' b (lk_flat h b hb) rfl
    · simp only [cond_true, Option.some.injEq] at h
      subst h
      refine ⟨h1, fun {j u} hj hne b hb hb' => ?_⟩
      simp only [lk] at hj
      have := nbeq.1 hk
      subst this
      rw [nbeq_false.2 hne] at hj
      exact h3 b hb b (lk_flat hj b hb') rfl
theorem lk_map {β γ : Type} (f : β → γ) : ∀ (l : List (Nat × β)) (i : Nat), lk (l.map fun q => (q.1, f q.2)) i = (lk l i).map f
  | [], i => rfl
  | (k, x) :: l, i => by
    simp only [List.map_cons, lk]
    cases Nat.beq k i
    · exact lk_map f l i
    · rfl
theorem lk_sttAll (rs : Roots) : ∀ (u : List (Nat × Root)) (j : Nat), lk (sttAll rs u) j = match lk u j with | some R => some R | none => lk rs j
  | [], j => rfl
  | (k, R) :: u, j => by
    simp only [sttAll, lk_stt, lk, lk_sttAll rs u j]
    by_cases h : j = k
    · subst h; simp [nbeq.2 rfl]
    · rw [nbeq_false.2 (Ne.symm h)]; simp [h]

theorem mvArgs_dom : ∀ (ps : List PM) (l : List Sl) (rs : Roots) (fs : List Foc) (rs1 : Roots), mvArgs ps l rs = some (fs, rs1) → ∀ j, lk rs j = none → lk rs1 j = none
  | [], [], rs, fs, rs1, h, j, hj => by simp only [mvArgs, Option.some.injEq, Prod.mk.injEq] at h; rw [← h.2]; exact hj
  | [], _ :: _, rs, fs, rs1, h, j, hj => by simp [mvArgs] at h
  | _ :: _, [], rs, fs, rs1, h, j, hj => by simp [mvArgs] at h
  | m :: ps, s :: l, rs, fs, rs1, h, j, hj => by
    have other : (mvArgs ps l rs).bind (fun h => some (junk :: h.1, h.2)) = some (fs, rs1) → lk rs1 j = none := fun hq => by
      simp only [Option.bind_eq_some_iff] at hq
      obtain ⟨⟨fs', rs'⟩, hq, he⟩ := hq
      simp only [Option.some.injEq, Prod.mk.injEq] at he
      obtain ⟨_, rfl⟩ := he
      exact mvArgs_dom ps l rs fs' rs' hq j hj
    cases m with
    | mv t o =>
      simp only [mvArgs, Option.bind_eq_some_iff] at h
      obtain ⟨⟨f, rs'⟩, hu, ⟨fs', rs''⟩, h, he⟩ := h
      simp only [Option.some.injEq, Prod.mk.injEq] at he
      obtain ⟨_, rfl⟩ := he
      exact mvArgs_dom ps l rs' fs' _ h j (useUp_dom hu j hj)
    | rd t => exact other h
    | ln t o => exact other h
    | bn t o => exact other h

section
variable {P : Program} {Γ : Ctx} {e : Env} {a : Act} {w : World} {o : Oper}

theorem call_after {s : Summ} {as : List Sl} {vss : List (List Value)} {F : Nat} (hFs : ∀ s, F ∉ (e.slot s).refs) (hd : dOK e o.dst = true) {O : Nat → Option Root} {C : Nat → Bool} {cs : Nat → List Value} {bs : Nat → List Nat} {rs : Roots} {its : List Item} (hx : HaveX Γ e.slot e.nt a w rs its O C cs bs)
    (hF : lk rs F = none) {m : Matched s.ps} {cl : List (List Value)} {bl : List (List Nat)} {okC : Nat → Prop} (hm : MOK Γ w O C cs bs okC s.ps m.xs m.upds m.lent its vss cl bl) (hL : m.lent.Nodup)
    (hseen : (∀ b, okC b → okOf Γ O bs b) ∨ (closed s.rt s.ro = true ∧ closedAll s.ps = true)) {y : s.σ} {v : Value} {w' : World} (hret : Ret s ⟨w, okC, bl.flatten, fun _ => undef⟩ cl y v w') {s' : Sl} {rs' : Roots}
    (hf : ((m.upds (s.fin y)).bind fun u => retSl s y (sttAll rs u) F) = some (s', rs')) : St Γ (setE e o.dst s' rs').ae (a.put o.dst v) w' := by
  obtain ⟨hext, cr, br, bf, hfin, hres, hnd, hnew, hv⟩ := hret
  simp only [Option.bind_eq_some_iff] at hf
  obtain ⟨u, hu, hf⟩ := hf
  obtain ⟨Ld, hA⟩ := hm.aft w' _ _ bf u hfin hu
  obtain ⟨n1, n2, n3⟩ := List.nodup_append.1 hnd
  have hO : ∀ r R, lk rs r = some R → C r = false ∧ O r = some R := fun r R hR => hx.look hR
  have hF' : C F = true ∨ O F = none := by
    have := hx.roots F
    rw [hF] at this
    cases hc : C F
    · right; rw [hc] at this; exact this.symm
    · left; rfl
  have hLdk : (Ld.map (·.1)).Nodup := by rw [hA.fst]; exact hL
  have hli : ∀ r l, lk Ld r = some l → LI Γ w O C cs bs w' (okRet ⟨w, okC, bl.flatten, fun _ => undef⟩ (br ++ bf.flatten)) (closedAll s.ps) r l := fun r l h => hA.li (r, l) (lk_mem h)
  have hLdF : lk Ld F = none := by
    cases h : lk Ld F with
    | none => rfl
    | some l =>
      have h1 := hli F l h
      obtain ⟨R, h2, _⟩ := h1.root
      rcases hF' with g | g
      · rw [h1.hC] at g; simp at g
      · rw [h2] at g; simp at g
  have hb2 : (Ld.map (fun q => q.2.b2)).flatten.Nodup := by rw [hA.b2]; exact n2
  -- the root of the result
  have main : ∀ (Nw : Nat → Option Nwt), (∀ k n, Nw k = some n → k = F ∧ n = ⟨⟨0, s.rt, s.ro, s.res y⟩, cr, br⟩) →
      ∃ cs' bs', StX Γ ⟨e.slot, lendO O C (lk Ld) Nw, e.nt⟩ a w' cs' bs' ∧ cs' = lendC cs Nw ∧ (br = [] ∨ Nw F ≠ none → Rep w' (okOf Γ (lendO O C (lk Ld) Nw) bs') s.rt s.ro (s.res y) cr br ∨ Nw F ≠ none) := by
    intro Nw hNw
    have hP : ∀ k, ∀ b ∈ newP (lk Ld) Nw k, b ∈ br ++ bf.flatten := fun k b hb => by
      simp only [newP] at hb
      cases hn : Nw k with
      | some n =>
        rw [hn] at hb
        obtain ⟨_, rfl⟩ := hNw k n hn
        exact List.mem_append_left _ hb
      | none =>
        rw [hn] at hb
        cases hl : lk Ld k with
        | none => rw [hl] at hb; simp at hb
        | some l =>
          rw [hl] at hb
          exact List.mem_append_right _ (hA.b2 ▸ lk_flat (g := fun l => l.b2) hl b hb)
    have fr : ∀ ok' : Nat → Prop, (∀ b, okOf Γ O bs b → b < w.heap.size → ok' b ∧ Same w w' b) → (∀ b, (w.heap.size ≤ b ∨ b ∈ bl.flatten) → (∀ k, b ∉ newP (lk Ld) Nw k) → ok' b) →
        (∀ b, okRet ⟨w, okC, bl.flatten, fun _ => undef⟩ (br ++ bf.flatten) b → b < w'.heap.size → ok' b) ∨ (closed s.rt s.ro = true ∧ closedAll s.ps = true) := fun ok' h1 h2 => by
      rcases hseen with g | g
      · refine .inl fun b hb _ => ?_
        obtain ⟨q1, q2⟩ := hb
        have hn : ∀ k, b ∉ newP (lk Ld) Nw k := fun k hk => q2 (hP k b hk)
        rcases q1 with q1 | q1
        · by_cases hlt : b < w.heap.size
          · exact (h1 b (g b q1) hlt).1
          · exact h2 b (.inl (by omega)) hn
        · exact h2 b q1 hn
      · exact .inr g
    obtain ⟨k1, k2, k3⟩ := hx.st.lend C (lk Ld) Nw (w' := w') ⟨hext.os.trans hx.st.p.ext.os, hext.tape.trans hx.st.p.ext.tape, hext.output.trans hx.st.p.ext.output, Nat.le_trans hx.st.p.ext.size hext.size, fun b h1 h2 => by
        have hs1 := hx.st.p.ext.same b h1 h2
        have hs2 : Same w w' b := hext.same b (Nat.lt_of_lt_of_le h1 hx.st.p.ext.size) fun hB => by
          have : Γ.new b := by
            rcases hm.inl b hB with g | ⟨r, _, R, g1, g2, g3⟩
            · obtain ⟨k, R, _, g2, g3⟩ := hx.own b g; exact hx.st.p.own k R g2 b g3
            · exact hx.st.p.own r R g1 b g3
          rcases this with g | g
          · omega
          · exact h2 g
        exact hs2.trans hs1⟩ bl.flatten (fun b hb => by
        rcases hA.b1 b hb with g | g
        · obtain ⟨k, R, g1, g2, g3⟩ := hx.own b g
          exact .inl ⟨k, R, g1, g2, g3⟩
        · rw [List.mem_flatten] at g
          obtain ⟨l', g1, g2⟩ := g
          obtain ⟨⟨r, l⟩, g3, rfl⟩ := List.mem_map.1 g1
          exact .inr ⟨r, l, lk_of_mem hLdk g3, g2⟩) (fun b h1 h2 => hext.same b h1 h2) (fun r l h => ⟨(hli r l h).hC, (hli r l h).root⟩) (fun k n h => by
        obtain ⟨rfl, _⟩ := hNw k n h
        exact ⟨hFs, hF'⟩) (fun k b hb => hnew b (hP k b hb)) (fun k => by
        simp only [newP]
        cases hn : Nw k with
        | some n => obtain ⟨_, rfl⟩ := hNw k n hn; exact n1
        | none =>
          cases hl : lk Ld k with
          | none => simp
          | some l => exact (lk_flat_nd (g := fun l => l.b2) hb2 hl).1) (fun k k' hne b hb hb' => by
        simp only [newP] at hb hb'
        cases hn : Nw k with
        | some n =>
          rw [hn] at hb
          obtain ⟨rfl, rfl⟩ := hNw k n hn
          cases hn' : Nw k' with
          | some n' => exact hne (hNw k' n' hn').1.symm
          | none =>
            rw [hn'] at hb'
            cases hl : lk Ld k' with
            | none => rw [hl] at hb'; simp at hb'
            | some l => rw [hl] at hb'; exact n3 b hb b (hA.b2 ▸ lk_flat (g := fun l => l.b2) hl b hb') rfl
        | none =>
          rw [hn] at hb
          cases hl : lk Ld k with
          | none => rw [hl] at hb; simp at hb
          | some l =>
            rw [hl] at hb
            cases hn' : Nw k' with
            | some n' =>
              rw [hn'] at hb'
              obtain ⟨_, rfl⟩ := hNw k' n' hn'
              exact n3 b hb' b (hA.b2 ▸ lk_flat (g := fun l => l.b2) hl b hb) rfl
            | none =>
              rw [hn'] at hb'
              cases hl' : lk Ld k' with
              | none => rw [hl'] at hb'; simp at hb'
              | some l' => rw [hl'] at hb'; exact (lk_flat_nd (g := fun l => l.b2) hb2 hl).2 hl' hne b hb hb') (fun ok' h1 h2 h3 => by
        have hfr := fr ok' h1 h2
        refine ⟨fun k n hn => ?_, fun k l hl => ?_⟩
        · obtain ⟨_, rfl⟩ := hNw k n hn
          dsimp only
          rcases hfr with g | g
          · exact Rep.frame (fun b hb hlt => ⟨g b hb hlt, rfl⟩) _ _ _ _ _ (fun _ _ => rfl) hres
          · exact Rep.closed _ _ _ _ _ g.1 hres
        · exact (hli k l hl).rep ok' (hfr.imp id fun g => g.2) h1 (h3 k l hl))
    refine ⟨_, _, k1, rfl, fun _ => ?_⟩
    left
    rcases fr _ k2 k3 with g | g
    · exact Rep.frame (fun b hb hlt => ⟨g b hb hlt, rfl⟩) _ _ _ _ _ (fun _ _ => rfl) hres
    · exact Rep.closed _ _ _ _ _ g.1 hres
  have hst : ∀ j, lk (sttAll rs u) j = lendO O C (lk Ld) (fun _ => none) j := fun j => by
    rw [lk_sttAll, hA.u, lk_map]
    simp only [lendO]
    cases lk Ld j with
    | none => simp [hx.roots]
    | some l => simp
  have hstF : lk (sttAll rs u) F = none := by
    rw [hst]; simp only [lendO, hLdF]
    rcases hF' with g | g
    · simp [g]
    · simp [g]
  have hst2 : ∀ j, lk (rapp (sttAll rs u) F ⟨0, s.rt, s.ro, s.res y⟩) j = lendO O C (lk Ld) (fun k => if k = F then some ⟨⟨0, s.rt, s.ro, s.res y⟩, cr, br⟩ else none) j := fun j => by
    rw [lk_rapp _ _ _ _ hstF]
    by_cases hj : j = F
    · subst hj; simp [lendO]
    · rw [if_neg hj, hst]; simp [lendO, hj]
  obtain ⟨cs1, bs1, m1, _, m2⟩ := main (fun _ => none) (by simp)
  obtain ⟨cs2, bs2, p1, p2, _⟩ := main (fun k => if k = F then some ⟨⟨0, s.rt, s.ro, s.res y⟩, cr, br⟩ else none) (fun k n h => by
    by_cases hk : k = F
    · rw [if_pos hk] at h; exact ⟨hk, (Option.some.inj h).symm⟩
    · rw [if_neg hk] at h; simp at h)
  have m1' : StX Γ ⟨e.slot, lk (sttAll rs u), e.nt⟩ a w' cs1 bs1 := by rw [show lk (sttAll rs u) = _ from funext hst]; exact m1
  have p1' : StX Γ ⟨e.slot, lk (rapp (sttAll rs u) F ⟨0, s.rt, s.ro, s.res y⟩), e.nt⟩ a w' cs2 bs2 := by rw [show lk (rapp (sttAll rs u) F ⟨0, s.rt, s.ro, s.res y⟩) = _ from funext hst2]; exact p1
  have hpu : s.ro.pure = true → Rep w' (okOf Γ (lk (sttAll rs u)) bs1) s.rt .no (s.res y) cr [] := fun hp => by
    have h5 := Rep.weaken _ _ _ _ _ _ (pure_le_no hp) hres
    have := Rep.no_bs _ _ _ _ h5
    rcases m2 (.inl this) with g | g
    · rw [show lk (sttAll rs u) = _ from funext hst]
      have h6 := Rep.weaken _ _ _ _ _ _ (pure_le_no hp) g
      rw [this] at h6; exact h6
    · simp at g
  have hcsF : cs2 F = cr := by rw [p2]; simp [lendC]
  have hlkF : lk (rapp (sttAll rs u) F ⟨0, s.rt, s.ro, s.res y⟩) F = some ⟨0, s.rt, s.ro, s.res y⟩ := by rw [lk_rapp _ _ _ _ hstF, if_pos rfl]
  unfold retSl at hf
  split at hf
  · rename_i hn
    simp only [Option.some.injEq, Prod.mk.injEq] at hf
    obtain ⟨rfl, rfl⟩ := hf
    exact St.fin m1' hd trivial
  · rename_i hn
    rw [hn] at hv
    have hv : v = pack s.rt cr := hv
    subst hv
    cases hp : s.ro.pure <;> rw [hp] at hf <;> simp only [cond_true, cond_false, Option.some.injEq, Prod.mk.injEq] at hf <;> obtain ⟨rfl, rfl⟩ := hf
    · exact St.fin p1' hd (slot_root rfl hlkF hcsF)
    · exact St.fin m1' hd ⟨cr, hpu hp, rfl⟩
  · rename_i h0 h1
    have hv' : v = .tuple (packs s.rt cr).toArray := by
      cases hk : s.nres with
      | zero => exact (h0 hk).elim
      | succ k => cases k with
        | zero => exact (h1 hk).elim
        | succ k => rw [hk] at hv; exact hv
    subst hv'
    cases hp : s.ro.pure <;> rw [hp] at hf <;> simp only [cond_true, cond_false, Option.some.injEq, Prod.mk.injEq] at hf <;> obtain ⟨rfl, rfl⟩ := hf
    · refine St.fin p1' hd fun R hR => ?_
      rw [hlkF] at hR
      obtain rfl := Option.some.inj hR
      rw [hcsF]
    · exact St.fin m1' hd ⟨cr, hpu hp, rfl⟩

theorem nx_callRes (h : St Γ e.ae a w) (hd : dOK e o.dst = true) {F : Nat} (hF : Fresh e F) {s : Summ} {f : FuncId} (hs : SummOK P f s) {as : List Sl} {vss : List (List Value)}
    (hA : ∀ O C cs bs rs items, HaveX Γ e.slot e.nt a w rs items O C cs bs → AOKs w (okOf Γ O bs) O cs s.ps as vss) (hrun : (execOp a.eval o).run P w = (callFunc f vss.flatten.toArray).run P w) : (callRes s as e.ow F).good P Γ o e a w := by
  unfold callRes
  refine good_ofOpt fun g hg => good_ofOpt fun m hm => good_bif fun hc => ?_
  intro y s' rs' hy hf
  obtain ⟨fs, rs1⟩ := g
  simp only [Bool.and_eq_true, Bool.or_eq_true] at hc
  obtain ⟨⟨hc1, hc2⟩, hc3⟩ := hc
  dsimp only at hm hf
  obtain ⟨f1, f2⟩ := hF
  obtain ⟨O0, C0, cs0, bs0, hh, rfl⟩ := Have.start h
  obtain ⟨O, C, cs, bs, its, hx, hmv⟩ := mvArgs_sound s.ps as vss fs _ rs1 _ _ _ _ _ hh hA hg
  rw [List.nil_append] at hx
  have hl := noDup_nodup hc1
  have hI : ∀ z ∈ blks its, ∀ r R, O r = some R → C r = false → z ∉ bs r := fun z hz r R hr hCr hb => by
    obtain ⟨k, R', g1, g2, g3⟩ := hx.own z hz
    exact hx.st.p.sep k R' r R g2 hr (fun e => by rw [e, hCr] at g1; simp at g1) z g3 hb
  obtain ⟨cl, bl, hM⟩ := matchArgs_sound (okC := fun b => okOf Γ O bs b ∨ ∃ r ∈ m.seen, ∃ R, O r = some R ∧ C r = false ∧ b ∈ bs r) hx.st.p (fun b hb => .inl hb) (fun r R hR => hx.look hR) s.ps as fs its vss m hmv hx.rep hI (hA _ _ _ _ _ _ hx) hm
    (fun r hr R hR hCr b hb => .inr ⟨r, hr, R, hR, hCr, hb⟩)
  have hdisj := disj_not hc2
  have hruns := hs w _ m.xs cl bl y hM.rep (hM.nd hl hx.nodup) (fun b hb hokb => by
    rcases hokb with g | ⟨r, g1, R, g2, g3, g4⟩
    · rcases hM.inl b hb with q | ⟨r, _, R, q2, q3, q4⟩
      · obtain ⟨k, R', q1, q2, q3⟩ := hx.own b q; exact g.2 k R' q2 q3
      · exact g.2 r R q2 q4
    · rcases hM.inl b hb with q | ⟨r', q1, R', q2, q3, q4⟩
      · exact hI b q r R g2 g3 g4
      · exact hx.st.p.sep r' R' r R q2 g2 (fun e => hdisj r' q1 (e ▸ g1)) b q4 g4) hy
  rw [hM.vals] at hruns
  have hfin : ∀ v w', Ret s _ cl y v w' → St Γ (setE e o.dst s' rs').ae (a.put o.dst v) w' := fun v w' hret => call_after (as := as) f1 hd hx (mvArgs_dom _ _ _ _ _ hg F f2) hM hl (by
    rcases hc3 with g | g
    · left
      have : m.seen = [] := by
        have := nbeq.1 g
        rw [lenL_eq] at this
        exact List.length_eq_zero_iff.1 this
      rintro b (q | ⟨r, q, _⟩)
      · exact q
      · rw [this] at q; simp at q
    · exact .inr g) hret hf
  intro next Q hn
  unfold Oper.wp
  rw [hrun]
  rcases hruns with ⟨h1, h2⟩ | ⟨v, w', h1, h2⟩
  · rw [h1, Oper.upon_enter]
    refine Calls.mono h2 fun en w' hR => ?_
    cases en with
    | returned v => exact hn _ _ (hfin v w' hR)
    | panicked c => exact hR.elim
    | outgrown => exact hR.elim
  · rw [h1, Oper.upon_value]
    exact hn _ _ (hfin v w' h2)

end
end Go.Rex

/-! What an operation does to the machine: cap, max, min. -/
set_option linter.unusedSimpArgs false
set_option linter.unusedVariables false
namespace Go.Rex
section
variable {P : Program} {Γ : Ctx} {e : Env} {a : Act} {w : World} {o : Oper}

theorem nx_cap {t : TypeId} {row : TRow} (hrow : RowOK P t row) (hs : isSliceTD row.d = true) (h : St Γ e.ae a w) (hd : dOK e o.dst = true) (x : Operand) (hx : e.opd x = .nilS) (ats : Array TypeId) (hat : ats[0]? = some t)
    (ho : o.op = .call { callee := .builtin .cap, args := #[x], argTypes := ats }) : Nx P Γ o e a w (.dt (.int .i64) (0 : Int)) e.ow := by
  obtain ⟨d, hu, _, hd2⟩ := hrow.desc
  have hd3 : ∃ el, d = .slice el := by
    cases hr : row.d <;> rw [hr] at hs hd2 <;> simp [isSliceTD] at hs
    exact ⟨_, hd2⟩
  obtain ⟨el, rfl⟩ := hd3
  obtain ⟨cs0, bs0, hx0⟩ := h.x
  have hv := opd_ok hx0 x
  rw [hx] at hv
  have hv : a.eval x = .slice none 0 0 := hv
  refine Nx.pure (v := .int .i64 0) h hd ?_ fun cs bs _ => ok_int _ _
  simp [execOp, ho, resolve, invoke, builtin, Builtin.cap_, hat, hv, underlying, hu, goInt]

theorem maxes_run (b : Bool) {cs : Nat → List Value} {bs : Nat → List Nat} (hx : StX Γ e.ae a w cs bs) : ∀ (l : List Operand) (m r : Int), maxes b m (mapL e.opd l) = some r →
    ((l.map a.eval).foldlM (if b then Builtin.max2 else Builtin.min2) (.int .i64 m)).run P w = .ok (.int .i64 r) w
  | [], m, r, h => by simp only [mapL, maxes, Option.some.injEq] at h; subst h; rfl
  | x :: l, m, r, h => by
    simp only [mapL] at h
    have hv := opd_ok hx x
    generalize hs : e.opd x = s at h hv
    have hform : ∃ q, s = .dt (.int .i64) q := by
      cases s <;> try (simp [maxes] at h; done)
      rename_i t q
      cases t <;> try (simp [maxes] at h; done)
      rename_i k
      cases k <;> try (simp [maxes] at h; done)
      exact ⟨q, rfl⟩
    obtain ⟨q, rfl⟩ := hform
    simp only [maxes] at h
    · have hq := dt_int hv
      simp only [List.map_cons, List.foldlM_cons, Sem.run_bind, hq]
      have ih := maxes_run b hx l _ r h
      cases b
      · simp only [Bool.false_eq_true, if_false, Builtin.min2, Sem.run_pure, Result.andThen_ok]
        simp only [cond_false, mnI, Bool.false_eq_true, if_false] at ih
        exact ih
      · simp only [if_true, Builtin.max2, Sem.run_pure, Result.andThen_ok]
        simp only [cond_true, mxI, if_true] at ih
        exact ih

theorem nx_max (b : Bool) (h : St Γ e.ae a w) (hd : dOK e o.dst = true) (m : Int) (l : List Sl) (r : Int) (hr : maxes b m l = some r) (args : Array Operand) (ats : Array TypeId) (ha : mapL e.opd args.toList = .dt (.int .i64) m :: l)
    (ho : o.op = .call { callee := .builtin (if b then .max else .min), args := args, argTypes := ats }) : Nx P Γ o e a w (.dt (.int .i64) r) e.ow := by
  obtain ⟨cs0, bs0, hx0⟩ := h.x
  obtain ⟨al⟩ := args
  cases al with
  | nil => simp [mapL] at ha
  | cons x l' =>
    simp only [mapL, List.cons.injEq] at ha
    obtain ⟨h1, h2⟩ := ha
    have hv := opd_ok hx0 x
    rw [h1] at hv
    have hv := dt_int hv
    have hrun := maxes_run (P := P) b hx0 l' m r (by rw [h2]; exact hr)
    refine Nx.pure (v := .int .i64 r) h hd ?_ fun cs bs _ => ok_int _ _
    cases b
    · simp only [Bool.false_eq_true, if_false] at ho hrun
      simp [execOp, ho, resolve, invoke, builtin, Builtin.min_, hv, hrun]
    · simp only [if_true] at ho hrun
      simp [execOp, ho, resolve, invoke, builtin, Builtin.max_, hv, hrun]
end
end Go.Rex

/-! What an operation does to the machine: make. -/
set_option linter.unusedSimpArgs false
set_option linter.unusedVariables false
namespace Go.Rex
section
variable {P : Program} {Γ : Ctx} {e : Env} {a : Act} {w : World} {o : Oper}

theorem madeCells_eq (z : Array Value) : ∀ (c : Nat), (madeCells z (c * z.size)).toList = (List.replicate c z.toList).flatten
  | 0 => by simp [madeCells]
  | c + 1 => by
    have ih := madeCells_eq z c
    simp only [madeCells, Array.toList_map, Array.toList_range] at ih ⊢
    rw [Nat.succ_mul, List.range_add, List.map_append, ih, List.replicate_succ', List.flatten_append]
    congr 1
    simp only [List.map_map, List.flatten_cons, List.flatten_nil, List.append_nil]
    refine List.ext_getElem (by simp) fun i h1 h2 => ?_
    simp only [List.length_map, List.length_range] at h1
    simp only [List.getElem_map, List.getElem_range, Function.comp]
    rw [Nat.mul_comm, Nat.mul_add_mod, Nat.mod_eq_of_lt h1]
    simp [h1]

theorem RepL_rep {α : Type} {R : α → List Value → List Nat → Prop} {x : α} {c : List Value} (h : R x c []) : ∀ n, RepL R (List.replicate n x) (List.replicate n c).flatten []
  | 0 => ⟨rfl, rfl⟩
  | n + 1 => ⟨c, _, [], [], by simp [List.replicate_succ], rfl, h, RepL_rep h n⟩

theorem nx_makeSlice {t el : TypeId} {erow : TRow} (hu : P.underlying t = some (.slice el)) (hrow : RowOK P el erow) (h : St Γ e.ae a w) (hd : dOK e o.dst = true) {F : Nat} (hF : Fresh e F) (n c : Operand) (ho : o.op = .makeSlice t n c) :
    (makeSliceRes erow (e.opd n) (e.opd c) e.ow F).good P Γ o e a w := by
  unfold makeSliceRes
  refine good_bif fun hz => ?_
  split
  · rename_i p q hp hq
    intro hok
    unfold mkOK lenOK at hok
    rw [Bool.and_eq_true, Bool.and_eq_true] at hok
    obtain ⟨hpq, h0, hle⟩ := hok
    have hpq : p = q := of_decide_eq_true hpq
    have h0 : 0 ≤ (p : Int) := of_decide_eq_true h0
    have hle : Int.toNat p ≤ 4294967296 := of_decide_eq_true hle
    subst hpq
    obtain ⟨i, hi, hsz, hby, hzero⟩ := hrow.info
    obtain ⟨z, hz1, hz2⟩ := hzero hz
    obtain ⟨O, C, cs, bs, hh, rfl⟩ := Have.start h
    obtain ⟨f1, f2⟩ := hF
    have h1 := dt_int (hp ▸ opd_okX hh.st n)
    have h2 := dt_int (hq ▸ opd_okX hh.st c)
    have hzw : z.cells.size = erow.ty.width := by
      have := Rep.len _ _ _ _ _ (Rep_zero (w := w) (ok := fun _ => True) erow.ty hz)
      rw [← hz2] at this; simpa using this
    have hbound : (i.bytes : Int) * p ≤ 281474976710656 := by
      have hb1 := hrow.small.1
      have hb2 : p.toNat ≤ 4294967296 := hle
      have : i.bytes * p.toNat ≤ 65536 * 4294967296 := Nat.mul_le_mul (by omega) hb2
      have e : (p.toNat : Int) = p := Int.toNat_of_nonneg h0
      have h3 : ((i.bytes * p.toNat : Nat) : Int) ≤ 281474976710656 := by omega
      rw [Int.natCast_mul, e] at h3
      exact h3
    have hrun := run_make (P := P) w t el i z hu hi hz1 .i64 .i64 p p h0 (Int.le_refl _) hbound (by omega)
    have hcells : (madeCells z.cells (p.toNat * i.size)).toList = (List.replicate p.toNat (zcells erow.ty)).flatten := by
      rw [hsz, ← hzw, madeCells_eq, hz2]
    refine Nx.value (v := .slice (some ⟨w.heap.size, 0, none⟩) p.toNat p.toNat) (w' := pushW w (.cells (madeCells z.cells (p.toNat * i.size)) el)) (by
      simp only [execOp, ho]
      rw [h1, h2, Sem.run_bind, hrun]
      rfl) ?_
    refine hh.fin f1 f2 (hh.st.p.ext.push _) (fun z hz _ => pushW_same _ _ hz) ⟨0, .sl erow.ty, .sl (zeroOw erow.ty), List.replicate p.toNat erow.ty.dflt⟩ [.slice (some ⟨w.heap.size, 0, none⟩) p.toNat p.toNat] [w.heap.size] (by simp) (fun z hz => .inl (by simp at hz; omega)) ?_ hd fun ok O' cs' q1 q2 => slot_root rfl q1 q2
    intro ok' k1 k2
    refine .inr ⟨w.heap.size, 0, p.toNat, _, el, (List.replicate p.toNat (zcells erow.ty)).flatten, [], ?_, rfl, pushW_new _ _, ?_, ?_, ?_, ?_, ?_⟩
    · simp
    · simp
    · simp; omega
    · have hl := congrArg List.length hcells
      simp only [Array.length_toList] at hl
      rw [hl]
      have := RepL.len (Rep.len erow.ty (zeroOw erow.ty)) _ _ _ (RepL_rep (Rep_zero (w := w) (ok := ok') erow.ty hz) p.toNat)
      rw [this]; simp
    · intro j hj
      rw [cell_of_heap (pushW_new _ _), Nat.zero_add, ← Array.getElem?_toList, hcells, List.getElem?_eq_getElem hj]
    · exact RepL_rep (Rep_zero erow.ty hz) p.toNat
  · trivial
end
end Go.Rex

/-! What an operation does to the machine: parts of strings and of rows. -/
set_option linter.unusedSimpArgs false
set_option linter.unusedVariables false
namespace Go.Rex
section
variable {P : Program} {Γ : Ctx} {e : Env} {a : Act} {w : World} {o : Oper}

theorem optInt_val {cs : Nat → List Value} {bs : Nat → List Nat} (hx : StX Γ e.ae a w cs bs) {d : Int} {x : Option Operand} {l : Int} (h : optInt d (Option.map e.opd x) = some l) :
    (x = none ∧ l = d) ∨ ∃ y k, x = some y ∧ a.eval y = .int k l := by
  cases x with
  | none => simp only [Option.map_none, optInt, Option.some.injEq] at h; exact .inl ⟨rfl, h.symm⟩
  | some y =>
    right
    simp only [Option.map_some] at h
    have hv := opd_ok hx y
    generalize e.opd y = s at h hv
    cases s <;> try (simp [optInt] at h; done)
    rename_i t q
    cases t <;> try (simp [optInt] at h; done)
    rename_i k
    simp only [optInt, Option.some.injEq] at h
    subst h
    exact ⟨y, k, rfl, dt_int hv⟩

theorem run_bounds {cs : Nat → List Value} {bs : Nat → List Nat} (hx : StX Γ e.ae a w cs bs) (isSlice : Bool) (len cap : Nat) (hlc : len ≤ cap) {lo hi : Option Operand} {l h : Int} (hl : optInt 0 (Option.map e.opd lo) = some l) (hh : optInt (len : Int) (Option.map e.opd hi) = some h)
    (hok : cutOK l h len = true) : (Instr.sliceBounds isSlice len cap (lo.map a.eval) (hi.map a.eval) none).run P w = .ok (l.toNat, h.toNat, cap) w := by
  simp only [cutOK, Bool.and_eq_true, decide_eq_true_eq] at hok
  obtain ⟨h1, h2, h3⟩ := hok
  have eh : (h.toNat : Int) = h := Int.toNat_of_nonneg (by omega)
  rcases optInt_val hx hl with ⟨rfl, rfl⟩ | ⟨y, k, rfl, hy⟩ <;> rcases optInt_val hx hh with ⟨rfl, rfl⟩ | ⟨y', k', rfl, hy'⟩
  · simp [Instr.sliceBounds]
  · simp [Instr.sliceBounds, hy', run_sliceBound _ _ _ _ _ (by omega : 0 ≤ h) (by omega : h ≤ (cap : Int))]
  · simp [Instr.sliceBounds, hy, run_sliceBound _ _ _ _ _ h1 h2]
  · simp [Instr.sliceBounds, hy, hy', run_sliceBound _ _ _ _ _ (by omega : 0 ≤ h) (by omega : h ≤ (cap : Int)), run_sliceBound _ _ _ _ _ h1 (by omega : l ≤ (h.toNat : Int))]

theorem nx_cut {t : TypeId} {row : TRow} (hrow : RowOK P t row) (hty : row.ty = .str) (h : St Γ e.ae a w) (hd : dOK e o.dst = true) (x : Operand) (lo hi : Option Operand) (ho : o.op = .slice t x lo hi none) :
    (cutRes (e.opd x) (Option.map e.opd lo) (Option.map e.opd hi) e.ow).good P Γ o e a w := by
  obtain ⟨cs0, bs0, hx0⟩ := h.x
  obtain ⟨d, hu, _⟩ := hrow.desc
  obtain rfl := (hrow.base d hu).2.2.1 hty
  unfold cutRes
  split
  · rename_i s hs
    refine good_ofOpt fun l hl => good_ofOpt fun h' hh hok => ?_
    have hv := dt_str (hs ▸ opd_ok hx0 x)
    have hb := run_bounds (P := P) hx0 false (ByteArray.size s) (ByteArray.size s) (Nat.le_refl _) hl hh hok
    refine Nx.pure (v := .string (ByteArray.extract s l.toNat h'.toNat)) h hd ?_ fun cs bs _ => ok_str _
    simp only [execOp, ho, hv, Option.map_none, Sem.run_bind]
    rw [run_sliceAt_string w t _ _ _ _ hu]
    simp only [Instr.slice, Sem.run_bind, run_underlying hu, Result.andThen_ok, Option.isSome_none, Bool.false_eq_true, if_false, Sem.run_pure]
    simp [hb]
  · trivial
end
end Go.Rex

/-! What an operation does to the machine: parts of rows. -/
set_option linter.unusedSimpArgs false
set_option linter.unusedVariables false
namespace Go.Rex
section
variable {P : Program} {Γ : Ctx} {e : Env} {a : Act} {w : World} {o : Oper}

theorem RepL_cut {α : Type} {R : α → List Value → List Nat → Prop} {n : Nat} (hR : ∀ x cs bs, R x cs bs → cs.length = n) {xs : List α} {es : List Value} {bs : List Nat} (h : RepL R xs es bs) (l k : Nat) (hlk : l ≤ k) (hk : k ≤ xs.length) :
    ∃ bs', bs'.Sublist bs ∧ RepL R ((xs.take k).drop l) ((es.take (k * n)).drop (l * n)) bs' := by
  obtain ⟨b1, b2, rfl, h1, h2⟩ := RepL.split hR k xs es bs hk h
  obtain ⟨b3, b4, rfl, h3, h4⟩ := RepL.split hR l _ _ _ (by simp; omega) h1
  exact ⟨b4, (List.sublist_append_right b3 b4).trans (List.sublist_append_left _ _), h4⟩

theorem At_cut {b o : Nat} {es : List Value} (h : At w b o es) (k l : Nat) : At w b (o + l) ((es.take k).drop l) := (h.take k).drop l

theorem cutL_len {α : Type} (xs : List α) {l h : Int} (hok : cutOK l h xs.length = true) : (cutL xs l h).length = h.toNat - l.toNat := by
  simp only [cutOK, Bool.and_eq_true, decide_eq_true_eq] at hok
  simp [cutL]; omega

theorem run_cut {t el : TypeId} {erow : TRow} (hu : P.underlying t = some (.slice el)) (hrow : RowOK P el erow) {cs : Nat → List Value} {bs : Nat → List Nat} (hx : StX Γ e.ae a w cs bs) (x : Operand) (lo hi : Option Operand) (ho : o.op = .slice t x lo hi none)
    {A : Option Addr} {len cap : Nat} (hlc : len ≤ cap) (hv : a.eval x = .slice A len cap) {l h : Int} (hl : optInt 0 (Option.map e.opd lo) = some l) (hh : optInt (len : Int) (Option.map e.opd hi) = some h) (hok : cutOK l h len = true) :
    (execOp a.eval o).run P w = .ok (.value (.slice (if cap = l.toNat then A else A.map (·.add (l.toNat * erow.ty.width))) (h.toNat - l.toNat) (cap - l.toNat))) w := by
  have hb := run_bounds (P := P) hx true len cap hlc hl hh hok
  obtain ⟨i, hi', hsz, _, _⟩ := hrow.info
  simp only [execOp, ho, hv, Option.map_none, Sem.run_bind]
  have h1 : (Instr.sliceAt t (.slice A len cap) (lo.map a.eval) (hi.map a.eval) none).run P w = (Instr.slice t (.slice A len cap) (lo.map a.eval) (hi.map a.eval) none).run P w := by
    simp [Instr.sliceAt, run_underlying hu]
  rw [h1]
  simp only [Instr.slice, Sem.run_bind, run_underlying hu, Result.andThen_ok, hb, sizeOf, typeInfo, Sem.run_pure]
  simp [hi', hsz]

theorem nx_slice {t el : TypeId} {erow : TRow} (hu : P.underlying t = some (.slice el)) (hrow : RowOK P el erow) (h : St Γ e.ae a w) (hd : dOK e o.dst = true) {F : Nat} (hF : Fresh e F) (x : Operand) (lo hi : Option Operand) (ho : o.op = .slice t x lo hi none) :
    (sliceRes erow (e.opd x) (Option.map e.opd lo) (Option.map e.opd hi) e.ow F).good P Γ o e a w := by
  obtain ⟨cs0, bs0, hx0⟩ := h.x
  unfold sliceRes
  split
  · rename_i t' xs hs
    refine good_bif fun hk => good_ofOpt fun l hl => good_ofOpt fun h' hh hok => ?_
    have hk := Ty.eqb_eq hk
    subst hk
    have hv := hs ▸ opd_ok hx0 x
    obtain ⟨c, hrep, hv⟩ := hv
    obtain ⟨_, A, cp, rfl, hlc, hmax, hel⟩ := hrep
    have hrun := run_cut hu hrow hx0 x lo hi ho hlc hv hl hh hok
    have hlen := cutL_len xs hok
    have hok' := hok
    simp only [cutOK, Bool.and_eq_true, decide_eq_true_eq] at hok'
    refine Nx.at hx0 hd hrun ⟨[.slice (if cp = l.toNat then A else A.map (·.add (l.toNat * erow.ty.width))) (cutL xs l h').length (cp - l.toNat)], ⟨rfl, if cp = l.toNat then A else A.map (·.add (l.toNat * erow.ty.width)), cp - l.toNat, rfl, ?_, ?_, ?_⟩, ?_⟩
    · rw [hlen]; omega
    · rw [hlen]; omega
    · rcases hel with rfl | ⟨b, off, es, rfl, hb1, hb2, hat, hr⟩
      · left; simp [cutL]
      · by_cases he : cutL xs l h' = []
        · exact .inl he
        · right
          have hpos : 0 < (cutL xs l h').length := List.length_pos_iff.2 he
          have hne : cp ≠ l.toNat := by omega
          obtain ⟨bs', q1, q2⟩ := RepL_cut (Rep.len _ _) hr l.toNat h'.toNat (by omega) (by omega)
          have hbs' : bs' = [] := by simpa using q1
          subst hbs'
          refine ⟨b, off + l.toNat * erow.ty.width, _, ?_, hb1, hb2, At_cut hat _ _, q2⟩
          rw [if_neg hne, Option.map_some, add_plain]
    · rw [hlen]; rfl
  · rename_i r ver p ix hs
    refine good_ofOpt fun g hg => ?_
    obtain ⟨f, rs'⟩ := g
    obtain ⟨O, C, cs, bs, hh0, rfl⟩ := Have.start h
    have hsl := opd_ok (e := e) hh0.st x
    rw [hs] at hsl
    obtain ⟨O', C', cs', bs', c, b, h2, hv, _⟩ := useUp_sound hh0 hsl hg
    obtain ⟨f1, f2⟩ := hF
    have hr := h2.rep _ (by simp : (⟨f, c, b⟩ : Item) ∈ [] ++ [⟨f, c, b⟩])
    have hbl : blks ([] ++ [⟨f, c, b⟩]) = b := by simp [blks]
    have hnd := h2.nodup
    rw [hbl] at hnd
    dsimp only at hr hg
    split
    · rename_i t' o' xs heq
      dsimp only at heq
      subst heq
      dsimp only at hr
      refine good_bif fun hk => good_ofOpt fun l hl => good_ofOpt fun h' hh hok => ?_
      have hk := Ty.eqb_eq hk
      subst hk
      have hlen := cutL_len xs hok
      have hok' := hok
      simp only [cutOK, Bool.and_eq_true, decide_eq_true_eq] at hok'
      have fin : ∀ (V : Value) (bsF : List Nat), (execOp a.eval o).run P w = .ok (.value V) w → bsF.Sublist b → (∀ ok' : Nat → Prop, (∀ z, okOf Γ O' bs' z → ok' z) → Rep w ok' (.sl erow.ty) (.sl o') (cutL xs l h') [V] bsF) →
          Nx P Γ o e a w (.rf F 0 [] []) (rapp rs' F ⟨0, .sl erow.ty, .sl o', cutL xs l h'⟩) := fun V bsF hrun hsub hrep => by
        refine Nx.value hrun ?_
        refine h2.fin f1 (useUp_dom hg F f2) h2.st.p.ext (fun z hz _ => rfl) ⟨0, .sl erow.ty, .sl o', cutL xs l h'⟩ [V] bsF (hsub.nodup hnd) (fun z hz => .inr (by rw [hbl]; exact hsub.subset hz)) (fun ok' k1 k2 => ?_) hd fun ok O' cs' q1 q2 => slot_root rfl q1 q2
        have := hrep (fun z => ok' z ∨ ¬ z < w.heap.size) (fun z hz => by
          by_cases hlt : z < w.heap.size
          · exact .inl (k1 z hz hlt)
          · exact .inr hlt)
        exact Rep.frame (fun z hz hlt => ⟨hz.resolve_right (by simpa using hlt), rfl⟩) _ _ _ _ _ (fun _ _ => rfl) this
      rcases hr with ⟨rfl, rfl, rfl⟩ | ⟨bk, off, cp, cur, el', es, bs1, rfl, rfl, hheap, hlc, hmax, hfit, hat, hrl⟩
      · have hrun := run_cut hu hrow hh0.st x lo hi ho (Nat.le_refl 0) hv hl hh hok
        have h0 : h'.toNat = 0 ∧ l.toNat = 0 := by simp at hok'; omega
        refine fin (.slice none 0 0) [] ?_ (by simp) (fun ok' _ => .inl ⟨rfl, by simp [cutL], rfl⟩)
        rw [hrun]; simp [h0]
      · have hlc : List.length xs ≤ cp := hlc
        have hmax : List.length xs ≤ 9223372036854775807 := hmax
        have hrun := run_cut hu hrow hh0.st x lo hi ho hlc hv hl hh hok
        obtain ⟨bs2, q1, q2⟩ := RepL_cut (Rep.len _ _) hrl l.toNat h'.toNat (by omega) (by omega)
        by_cases hcp : cp = l.toNat
        · rw [if_pos hcp] at hrun
          have hz : h'.toNat - l.toNat = 0 := by omega
          have hx0 : cutL xs l h' = [] := List.length_eq_zero_iff.1 (by rw [hlen]; exact hz)
          refine fin _ [bk] hrun (by simp) fun ok' _ => .inr ⟨bk, off, cp - l.toNat, cur, el', [], [], ?_, rfl, hheap, ?_, ?_, ?_, At.nil, ?_⟩
          · rw [hx0, hz]; rfl
          · rw [hx0]; simp
          · rw [hx0]; simp
          · have : (cp - l.toNat) * erow.ty.width = 0 := by rw [hcp]; simp
            omega
          · rw [hx0]; exact ⟨rfl, rfl⟩
        · rw [if_neg hcp, Option.map_some, add_plain] at hrun
          refine fin _ (bk :: bs2) hrun (q1.cons_cons _) fun ok' k1 => .inr ⟨bk, off + l.toNat * erow.ty.width, cp - l.toNat, cur, el', (es.take (h'.toNat * erow.ty.width)).drop (l.toNat * erow.ty.width), bs2, ?_, rfl, hheap, ?_, ?_, ?_, At_cut hat _ _, ?_⟩
          · rw [hlen]
          · rw [hlen]; omega
          · rw [hlen]; omega
          · have e1 : l.toNat * erow.ty.width + (cp - l.toNat) * erow.ty.width = cp * erow.ty.width := by
              rw [← Nat.add_mul]; congr 1; omega
            omega
          · exact RepL.imp0 (fun x cs b hr => Rep.frame (fun z hz _ => ⟨k1 z hz, rfl⟩) _ _ _ _ _ (fun _ _ => rfl) hr) _ _ _ q2
    · trivial
  · trivial

end
end Go.Rex

/-! What an operation does to the machine: conversions. -/
set_option linter.unusedSimpArgs false
set_option linter.unusedVariables false
namespace Go.Rex
section
variable {P : Program} {Γ : Ctx} {e : Env} {a : Act} {w : World} {o : Oper}

theorem ints_cells {ok : Nat → Prop} {k : IntKind} {o : Ow} (ho : o ≠ .hole) : ∀ (xs : List Int) (es : List Value) (bs : List Nat), RepL (Rep w ok (.int k) o) xs es bs → es = xs.map (Value.int k)
  | [], es, bs, h => h.1
  | x :: xs, es, bs, h => by
    obtain ⟨c1, c2, b1, b2, rfl, rfl, h1, h2⟩ := h
    have := ints_cells ho xs c2 b2 h2
    subst this
    cases o with
    | hole => exact absurd rfl ho
    | _ => rw [h1.2]; rfl

theorem push_bytes : ∀ (xs : List Int) (acc : ByteArray), (xs.foldl (fun r n => r.push (UInt8.ofNat n.toNat)) acc) = ⟨acc.data ++ (xs.map fun n => UInt8.ofNat n.toNat).toArray⟩
  | [], acc => by simp
  | x :: xs, acc => by
    rw [List.foldl_cons, push_bytes xs]
    simp [ByteArray.push]
theorem run_bytes {src dst e8 : TypeId} (hsrc : P.underlying src = some (.slice e8)) (h8 : P.underlying e8 = some (.int .u8)) (hdst : P.underlying dst = some .string) {A : Option Addr} {cp : Nat} (xs : List Int)
    (hA : xs = [] ∨ ∃ b off, A = some ⟨b, off, none⟩ ∧ At w b off (xs.map (Value.int .u8))) : (convert src dst (.slice A xs.length cp)).run P w = .ok (.string (bytesOfNums xs)) w := by
  have e0 : (convert src dst (.slice A xs.length cp)).run P w = (Conv.bytesToString (.slice A xs.length cp)).run P w := by
    unfold convert
    simp only [Sem.run_bind, run_underlying hsrc, run_underlying hdst, Result.andThen_ok]
    cases A <;> simp [run_underlying h8]
  rw [e0]
  cases A with
  | none =>
    rcases hA with rfl | ⟨b, off, h, _⟩
    · simp [Conv.bytesToString, bytesOfNums]; rfl
    · simp at h
  | some ad =>
    have hl : (loadCells ad xs.length).run P w = .ok (xs.map (Value.int .u8)).toArray w := by
      have := run_loadCells_list (P := P) w ad (xs.map (Value.int .u8)) fun j v hv => by
        rcases hA with rfl | ⟨b, off, h, hat⟩
        · simp at hv
        · obtain rfl := Option.some.inj h
          obtain ⟨hj, rfl⟩ := List.getElem?_eq_some_iff.1 hv
          rw [add_plain]; exact hat j hj
      simpa using this
    rw [run_bytesToString w ad xs.length cp xs hl, push_bytes]
    simp [bytesOfNums]

theorem nx_conv {c d : TypeId} {crow row : TRow} (hc : RowOK P c crow) (hrow : RowOK P d row) (h : St Γ e.ae a w) (hd : dOK e o.dst = true) (x : Operand) (ho : o.op = .convert c d x) : (convRes crow row (e.opd x) e.ow).good P Γ o e a w := by
  obtain ⟨cs0, bs0, hx0⟩ := h.x
  have ox := opd_ok hx0 x
  obtain ⟨dc, hcu, _⟩ := hc.desc
  obtain ⟨dd, hdu, _⟩ := hrow.desc
  have hexec : (execOp a.eval o).run P w = ((convert c d (a.eval x)).run P w).andThen fun v w => .ok (.value v) w := by
    simp only [execOp, ho, Sem.run_bind, Sem.run_pure]
  unfold convRes
  split
  · rename_i k k' n hk hs
    have hv := dt_int (hs ▸ ox)
    obtain rfl := (hrow.base dd hdu).2.1 _ hk
    intro _
    refine Nx.at hx0 hd (v := .int k (k.wrap n)) ?_ (ok_int _ _)
    rw [hexec, hv]
    unfold convert
    simp [run_underlying hcu, run_underlying hdu, Conv.intToInt]
  · rename_i s hk hs
    have hv := dt_str (hs ▸ ox)
    obtain rfl := (hrow.base dd hdu).2.2.1 hk
    intro _
    refine Nx.at hx0 hd (v := .string s) ?_ (ok_str _)
    rw [hexec, hv]
    unfold convert
    simp [run_underlying hcu, run_underlying hdu]
  · rename_i xs hk hs
    refine good_bif fun hct _ => ?_
    obtain rfl := (hrow.base dd hdu).2.2.1 hk
    obtain ⟨e8, rfl, _, h8⟩ := (hc.base dc hcu).2.2.2 _ (Ty.eqb_eq hct)
    obtain ⟨cc, ⟨_, A, cp, rfl, _, _, hel⟩, hv⟩ := hs ▸ ox
    have hv : a.eval x = .slice A (List.length xs) cp := hv
    refine Nx.at hx0 hd (v := .string (bytesOfNums xs)) ?_ (ok_str _)
    rw [hexec, hv, run_bytes hcu (h8 _ rfl) hdu xs]
    · rfl
    · rcases hel with g | ⟨b, off, es, rfl, _, _, hat, hr⟩
      · exact .inl g
      · exact .inr ⟨b, off, rfl, by rw [← ints_cells (by simp) xs es [] hr]; exact hat⟩
  · rename_i r ver p ix hk hs
    refine good_bif fun hct => good_ofOpt fun q hq => ?_
    obtain rfl := (hrow.base dd hdu).2.2.1 hk
    obtain ⟨e8, rfl, _, h8⟩ := (hc.base dc hcu).2.2.2 _ (Ty.eqb_eq hct)
    obtain ⟨h1, h2, h3, h4, L, hop, hv⟩ := ownSlice_sound (C := fun _ => false) hx0.p (fun r R hR => ⟨rfl, hR⟩) (hs ▸ ox) hq
    obtain ⟨bb, hrep⟩ := hop.rep
    have hLt := hop.t
    rw [← h4] at hrep hLt
    split
    · rename_i o' xs hq2
      refine good_bif fun hoh _ => ?_
      have hoh : o' ≠ .hole := fun e => by subst e; exact absurd hoh (by decide)
      rw [hq2] at hrep hLt
      rw [hLt] at hv
      refine Nx.at hx0 hd (v := .string (bytesOfNums xs)) ?_ (ok_str _)
      rcases hrep with ⟨hcs, hx, _⟩ | ⟨b, off, cp, cur, el, es, bs', hcs, _, _, _, _, _, hat, hr⟩
      · rw [hcs] at hv
        have hx : xs = [] := hx
        subst hx
        have hv : a.eval x = .slice none ([] : List Int).length 0 := hv
        rw [hexec, hv, run_bytes hcu (h8 _ rfl) hdu [] (.inl rfl)]; rfl
      · rw [hcs] at hv
        have hv : a.eval x = .slice (some ⟨b, off, none⟩) (List.length xs) cp := hv
        rw [hexec, hv, run_bytes hcu (h8 _ rfl) hdu xs (.inr ⟨b, off, rfl, by rw [← ints_cells hoh xs es bs' hr]; exact hat⟩)]; rfl
    · trivial
  · trivial
end
end Go.Rex

/-! What an operation does to the machine: rows written out. -/
set_option linter.unusedSimpArgs false
set_option linter.unusedVariables false
namespace Go.Rex

def SOKs (w : World) (ok : Nat → Prop) (O : Nat → Option Root) (cs : Nat → List Value) : List Sl → List Value → Prop
  | [], [] => True
  | s :: l, v :: vs => SlotOK w ok O cs s v ∧ SOKs w ok O cs l vs
  | _, _ => False
theorem SOKs.append {w : World} {ok : Nat → Prop} {O : Nat → Option Root} {cs : Nat → List Value} : ∀ {l l' : List Sl} {vs vs' : List Value}, SOKs w ok O cs l vs → SOKs w ok O cs l' vs' → SOKs w ok O cs (l ++ l') (vs ++ vs')
  | [], _, [], _, _, h => h
  | s :: l, _, v :: vs, _, h, h' => ⟨h.1, SOKs.append h.2 h'⟩
  | [], _, _ :: _, _, h, _ => h.elim
  | _ :: _, _, [], _, h, _ => h.elim
theorem mapL_eq {α β : Type} (f : α → β) : ∀ l : List α, mapL f l = l.map f
  | [] => rfl
  | x :: l => by simp [mapL, mapL_eq f l]


/-- Every content of the one shape is one of the other. -/
def ImpO (o o' : Ow) : Prop := ∀ (w : World) (ok : Nat → Prop) (t : Ty) (x : t.den) (c : List Value) (b : List Nat), Rep w ok t o x c b → Rep w ok t o' x c b
theorem supAll_imp : ∀ (l : List Ow) (o o' : Ow), supAll o l = some o' → ImpO o o' ∧ ∀ a ∈ l, ImpO a o'
  | [], o, o', h => by
    simp only [supAll, Option.some.injEq] at h
    subst h
    exact ⟨fun _ _ _ _ _ _ h => h, by simp⟩
  | a :: l, o, o', h => by
    simp only [supAll] at h
    cases hc : (o.le (o.sup a) && a.le (o.sup a)) <;> rw [hc] at h
    · simp at h
    simp only [cond_true] at h
    simp only [Bool.and_eq_true] at hc
    obtain ⟨h1, h2⟩ := supAll_imp l _ _ h
    refine ⟨fun w ok t x c b hr => h1 _ _ _ _ _ _ (Rep.weaken _ _ _ _ _ _ hc.1 hr), fun q hq => ?_⟩
    rcases List.mem_cons.1 hq with rfl | hq
    · exact fun w ok t x c b hr => h1 _ _ _ _ _ _ (Rep.weaken _ _ _ _ _ _ hc.2 hr)
    · exact h2 q hq

/-- Some contents that are all of one type, told in one shape. -/
def Gath (ok : Nat → Prop) (w : World) (t : Ty) : List t.den → List Item → Prop
  | [], [] => True
  | x :: xs, i :: its => (∃ h : i.f.t = t, (h ▸ i.f.x : t.den) = x) ∧ Gath ok w t xs its
  | _, _ => False
theorem castAll_gath {ok : Nat → Prop} {w : World} {t : Ty} : ∀ (its : List Item) (xs : List t.den), castAll t (its.map (·.f)) = some xs → Gath ok w t xs its
  | [], xs, h => by
    simp only [List.map_nil, castAll, Option.some.injEq] at h
    subst h
    trivial
  | i :: its, xs, h => by
    simp only [List.map_cons, castAll] at h
    split at h
    · rename_i ht
      simp only [Option.bind_eq_some_iff, Option.some.injEq] at h
      obtain ⟨r, hr, rfl⟩ := h
      exact ⟨⟨ht, rfl⟩, castAll_gath its r hr⟩
    · simp at h
theorem gath_rep {ok0 : Nat → Prop} {w : World} {t : Ty} {ok : Nat → Prop} {o : Ow} : ∀ (xs : List t.den) (its : List Item), Gath ok0 w t xs its → (∀ i ∈ its, Rep w ok i.f.t o i.f.x i.c i.b) →
    RepL (Rep w ok t o) xs (its.map (·.c)).flatten (blks its)
  | [], [], _, _ => ⟨rfl, rfl⟩
  | [], _ :: _, h, _ => h.elim
  | _ :: _, [], h, _ => h.elim
  | x :: xs, i :: its, ⟨⟨ht, hx⟩, h⟩, hr => by
    refine ⟨i.c, _, i.b, _, rfl, rfl, ?_, gath_rep xs its h fun j hj => hr j (by simp [hj])⟩
    have := hr i (by simp)
    obtain ⟨⟨it, io, ix⟩, ic, ib⟩ := i
    dsimp only at ht hx this ⊢
    subst ht
    subst hx
    exact this
theorem gath_dem {ok0 : Nat → Prop} {w : World} {t : Ty} {ok : Nat → Prop} : ∀ (xs : List t.den) (its : List Item), Gath ok0 w t xs its → (∀ i ∈ its, Rep w ok i.f.t .no i.f.x i.c []) →
    RepL (Rep w ok t .no) xs (its.map (·.c)).flatten []
  | [], [], _, _ => ⟨rfl, rfl⟩
  | [], _ :: _, h, _ => h.elim
  | _ :: _, [], h, _ => h.elim
  | x :: xs, i :: its, ⟨⟨ht, hx⟩, h⟩, hr => by
    refine ⟨i.c, _, [], _, rfl, rfl, ?_, gath_dem xs its h fun j hj => hr j (by simp [hj])⟩
    have := hr i (by simp)
    obtain ⟨⟨it, io, ix⟩, ic, ib⟩ := i
    dsimp only at ht hx this ⊢
    subst ht
    subst hx
    exact this
theorem blks_mem {z : Nat} : ∀ {l : List Item}, z ∈ blks l → ∃ i ∈ l, z ∈ i.b
  | [], h => by simp [blks] at h
  | i :: l, h => by
    simp only [blks, List.mem_append] at h
    rcases h with h | h
    · exact ⟨i, by simp, h⟩
    · obtain ⟨j, h1, h2⟩ := blks_mem h
      exact ⟨j, by simp [h1], h2⟩
theorem mem_blks {z : Nat} : ∀ {l : List Item} {i : Item}, i ∈ l → z ∈ i.b → z ∈ blks l
  | j :: l, i, h, hz => by
    simp only [blks, List.mem_append]
    rcases List.mem_cons.1 h with rfl | h
    · exact .inl hz
    · exact .inr (mem_blks h hz)
theorem allDem_mem : ∀ {l : List Foc}, allDem l = true → ∀ f ∈ l, Ow.demotes f.t f.o = true
  | [], _, f, hf => by simp at hf
  | g :: l, h, f, hf => by
    simp only [allDem, Bool.and_eq_true] at h
    rcases List.mem_cons.1 hf with rfl | hf
    · exact h.1
    · exact allDem_mem h.2 f hf
/-- What is gathered, in its one shape: the blocks that are owned then. -/
theorem joint_rep {ok0 : Nat → Prop} {w : World} {t : Ty} {its : List Item} {xs : List t.den} {z o : Ow} (hg : Gath ok0 w t xs its) (hr : ∀ i ∈ its, Rep w ok0 i.f.t i.f.o i.f.x i.c i.b) (hj : joint z (its.map (·.f)) = some o) :
    ∃ bs, (bs = blks its ∨ bs = []) ∧ ∀ ok : Nat → Prop, (∀ b, ok0 b → ok b) → (∀ b ∈ blks its, b ∉ bs → ok b) → RepL (Rep w ok t o) xs (its.map (·.c)).flatten bs := by
  unfold joint at hj
  split at hj
  · rename_i o' ho
    obtain rfl := Option.some.inj hj
    rw [mapL_eq] at ho
    obtain ⟨_, h2⟩ := supAll_imp _ _ _ ho
    refine ⟨blks its, .inl rfl, fun ok h0 _ => gath_rep xs its hg fun i hi => h2 i.f.o (List.mem_map.2 ⟨i.f, List.mem_map.2 ⟨i, hi, rfl⟩, rfl⟩) _ _ _ _ _ _ ?_⟩
    exact Rep.frame (fun b hb _ => ⟨h0 b hb, rfl⟩) _ _ _ _ _ (fun _ _ => rfl) (hr i hi)
  · cases hd : allDem (its.map (·.f)) <;> rw [hd] at hj
    · simp at hj
    simp only [cond_true, Option.bind_eq_some_iff, Option.some.injEq] at hj
    obtain ⟨_, _, rfl⟩ := hj
    exact ⟨[], .inr rfl, fun ok h0 h1 => gath_dem xs its hg fun i hi => Rep.demote h0 _ _ _ _ _ (allDem_mem hd i.f (List.mem_map.2 ⟨i, hi, rfl⟩)) (fun b hb => h1 b (mem_blks hi hb) (by simp)) (hr i hi)⟩

section
variable {P : Program} {Γ : Ctx} {S : Nat → Sl} {nt : Nt} {a : Act} {w : World}
def Vals : List Item → List Value → Prop
  | [], [] => True
  | i :: its, v :: vs => v = pack i.f.t i.c ∧ Vals its vs
  | _, _ => False
theorem useUps_sound (want : Ty) : ∀ (l : List Sl) (vs : List Value) (rs : Roots) (g : List Foc × Roots) (items : List Item) (O : Nat → Option Root) (C : Nat → Bool) (cs : Nat → List Value) (bs : Nat → List Nat),
    HaveX Γ S nt a w rs items O C cs bs → (∀ O C cs bs rs items, HaveX Γ S nt a w rs items O C cs bs → SOKs w (okOf Γ O bs) O cs l vs) → useUps want l rs = some g →
    ∃ O' C' cs' bs' its, HaveX Γ S nt a w g.2 (items ++ its) O' C' cs' bs' ∧ its.map (·.f) = g.1 ∧ Vals its vs
  | [], vs, rs, g, items, O, C, cs, bs, h, hA, hm => by
    simp only [useUps, Option.some.injEq] at hm
    subst hm
    have := hA _ _ _ _ _ _ h
    cases vs with
    | nil => exact ⟨O, C, cs, bs, [], by simpa using h, rfl, trivial⟩
    | cons _ _ => cases this
  | s :: l, [], rs, g, items, O, C, cs, bs, h, hA, hm => by cases hA _ _ _ _ _ _ h
  | s :: l, v :: vs, rs, g, items, O, C, cs, bs, h, hA, hm => by
    simp only [useUps, Option.bind_eq_some_iff, Option.some.injEq] at hm
    obtain ⟨g1, hu, g2, hm, rfl⟩ := hm
    obtain ⟨O', C', cs', bs', c, b, k1, k2, _⟩ := useUp_sound h (hA _ _ _ _ _ _ h).1 hu
    obtain ⟨O2, C2, cs2, bs2, its, q1, q2, q3⟩ := useUps_sound want l vs g1.2 g2 _ O' C' cs' bs' k1 (fun O C cs bs rs items h => (hA O C cs bs rs items h).2) hm
    exact ⟨O2, C2, cs2, bs2, ⟨g1.1, c, b⟩ :: its, by rw [List.append_cons]; exact q1, by simp [q2], k2, q3⟩
theorem useUps_dom (want : Ty) : ∀ (l : List Sl) (rs : Roots) (g : List Foc × Roots), useUps want l rs = some g → ∀ j, lk rs j = none → lk g.2 j = none
  | [], rs, g, h, j, hj => by simp only [useUps, Option.some.injEq] at h; subst h; exact hj
  | s :: l, rs, g, h, j, hj => by
    simp only [useUps, Option.bind_eq_some_iff, Option.some.injEq] at h
    obtain ⟨g1, hu, g2, hm, rfl⟩ := h
    exact useUps_dom want l _ _ hm j (useUp_dom hu j hj)
theorem Vals.cells {ok : Nat → Prop} : ∀ (its : List Item) (vs : List Value), Vals its vs → (∀ i ∈ its, Rep w ok i.f.t i.f.o i.f.x i.c i.b) → (vs.flatMap fun v => v.cells.toList) = (its.map (·.c)).flatten
  | [], [], _, _ => rfl
  | [], _ :: _, h, _ => h.elim
  | _ :: _, [], h, _ => h.elim
  | i :: its, v :: vs, ⟨h1, h2⟩, hr => by
    rw [List.flatMap_cons, Vals.cells its vs h2 fun j hj => hr j (by simp [hj]), h1, (hr i (by simp)).cells]; rfl
theorem Vals.len : ∀ (its : List Item) (vs : List Value), Vals its vs → its.length = vs.length
  | [], [], _ => rfl
  | [], _ :: _, h => h.elim
  | _ :: _, [], h => h.elim
  | i :: its, v :: vs, ⟨h1, h2⟩ => by simp [Vals.len its vs h2]
theorem Vals.size {ok : Nat → Prop} {t : Ty} : ∀ (its : List Item) (vs : List Value), Vals its vs → (∀ i ∈ its, Rep w ok i.f.t i.f.o i.f.x i.c i.b) → (∀ i ∈ its, i.f.t = t) → ∀ v ∈ vs, v.cells.size = t.width
  | [], [], _, _, _, v, hv => by simp at hv
  | [], _ :: _, h, _, _, _, _ => h.elim
  | _ :: _, [], h, _, _, _, _ => h.elim
  | i :: its, v :: vs, ⟨h1, h2⟩, hr, ht, u, hu => by
    rcases List.mem_cons.1 hu with rfl | hu
    · have := (hr i (by simp)).cells
      rw [← Array.length_toList, h1, this, Rep.len _ _ _ _ _ (hr i (by simp)), ht i (by simp)]
    · exact Vals.size its vs h2 (fun j hj => hr j (by simp [hj])) (fun j hj => ht j (by simp [hj])) u hu
theorem gath_ty {ok : Nat → Prop} {t : Ty} : ∀ (xs : List t.den) (its : List Item), Gath ok w t xs its → (∀ i ∈ its, i.f.t = t) ∧ xs.length = its.length
  | [], [], _ => by simp
  | [], _ :: _, h => h.elim
  | _ :: _, [], h => h.elim
  | x :: xs, i :: its, ⟨⟨ht, _⟩, h⟩ => by
    obtain ⟨h1, h2⟩ := gath_ty xs its h
    exact ⟨by simpa [ht] using h1, by simp [h2]⟩
theorem partsUp_zip (f : Operand → Value) (n : Nat) : ∀ (l : List (Nat × Operand)) (i : Nat), partsUp n l i = true → n = i + l.length ∧ l.map (fun p => (p.1, f p.2)) = ((l.map fun p => f p.2).zipIdx i).map fun x => (x.2, x.1)
  | [], i, h => ⟨by have := nbeq.1 h; simp [this], rfl⟩
  | (k, x) :: l, i, h => by
    simp only [partsUp, Bool.and_eq_true] at h
    obtain ⟨h1, h2⟩ := partsUp_zip f n l _ h.2
    have hk := nbeq.1 h.1
    refine ⟨by simp only [List.length_cons]; omega, ?_⟩
    simp only [List.map_cons, List.zipIdx_cons, h2, hk]
end

section
variable {P : Program} {Γ : Ctx} {e : Env} {a : Act} {w : World} {o : Oper}
theorem SOKs.opds {O : Nat → Option Root} {n : Nt} {cs : Nat → List Value} {bs : Nat → List Nat} (h : StX Γ ⟨e.slot, O, n⟩ a w cs bs) : ∀ (l : List Operand), SOKs w (okOf Γ O bs) O cs (mapL e.opd l) (l.map a.eval)
  | [] => trivial
  | x :: l => ⟨opd_okX h x, SOKs.opds h l⟩

theorem nx_buildSlice {t el : TypeId} {erow : TRow} (hu : P.underlying t = some (.slice el)) (hrow : RowOK P el erow) (h : St Γ e.ae a w) (hd : dOK e o.dst = true) {F : Nat} (hF : Fresh e F) (n : Nat) (ps : Array (Nat × Operand)) (ho : o.op = .buildSlice t n ps) :
    (buildSliceRes erow n ps.toList (mapL (fun p => e.opd p.2) ps.toList) e.ow F).good P Γ o e a w := by
  unfold buildSliceRes
  rw [wid_eq]
  refine good_bif fun hz => good_ofOpt fun g hg => good_ofOpt fun xs hxs => good_ofOpt fun o' ho' _ => ?_
  simp only [Bool.and_eq_true] at hz
  obtain ⟨hz, hw0, hsm, hpu⟩ := hz
  have hw0 : 0 < erow.ty.width := by simpa using hw0
  have hsm : n * erow.ty.width ≤ 16777216 := Nat.le_of_ble_eq_true hsm
  obtain ⟨hn, hzip⟩ := partsUp_zip a.eval n ps.toList 0 hpu
  obtain ⟨i, hi, hsz, hby, hzero⟩ := hrow.info
  obtain ⟨z, hz1, hz2⟩ := hzero hz
  obtain ⟨O0, C0, cs0, bs0, hh0, rfl⟩ := Have.start h
  obtain ⟨f1, f2⟩ := hF
  have hslots : ∀ O C cs bs rs items, HaveX Γ e.slot e.nt a w rs items O C cs bs → SOKs w (okOf Γ O bs) O cs (mapL (fun p => e.opd p.2) ps.toList) (ps.toList.map fun p => a.eval p.2) := fun O C cs bs rs items hh => by
    have : ∀ l : List (Nat × Operand), SOKs w (okOf Γ O bs) O cs (mapL (fun p => e.opd p.2) l) (l.map fun p => a.eval p.2) := fun l => by
      induction l with
      | nil => trivial
      | cons x l ih => exact ⟨opd_okX hh.st x.2, ih⟩
    exact this _
  obtain ⟨O, C, cs, bs, its, hh, hf, hv⟩ := useUps_sound erow.ty _ _ _ g [] _ _ _ _ hh0 hslots hg
  simp only [List.nil_append] at hh
  rw [← hf] at hxs ho'
  have hga := castAll_gath (ok := okOf Γ O bs) (w := w) its xs hxs
  obtain ⟨hty, hlen⟩ := gath_ty xs its hga
  obtain ⟨bs1, hbs1, hrl⟩ := joint_rep hga hh.rep ho'
  have hcells := Vals.cells its _ hv hh.rep
  have hsize := Vals.size its _ hv hh.rep hty
  have hvl := Vals.len its _ hv
  have hnl : n = xs.length := by rw [hn, hlen, hvl]; simp
  have hcl : (its.map (·.c)).flatten.length = n * erow.ty.width := by
    have := RepL.len (Rep.len erow.ty o') _ _ _ (hrl (fun _ => True) (fun _ _ => trivial) (fun _ _ _ => trivial))
    rw [this, hnl]
  let cells : Array Value := (its.map (·.c)).flatten.toArray
  have hzw : z.cells.size = erow.ty.width := by
    have := Rep.len _ _ _ _ _ (Rep_zero (w := w) (ok := fun _ => True) erow.ty hz)
    rw [← hz2] at this; simpa using this
  have hrun : (Instr.buildSlice t n (ps.map fun (i, x) => (i, a.eval x))).run P w = .ok (.slice (some ⟨w.heap.size, 0, none⟩) n n) (pushW w (.cells cells el)) := by
    have hpl : (ps.map fun (i, x) => (i, a.eval x)).toList = ((ps.toList.map fun p => a.eval p.2).zipIdx 0).map fun x => (x.2, x.1) := by
      rw [Array.toList_map]; exact hzip
    have hnum : ¬ n * i.size > 2 ^ 24 := by rw [hsz]; omega
    by_cases hn0 : n * i.size = 0
    · have hn0' : n = 0 := by
        rw [hsz] at hn0
        rcases Nat.mul_eq_zero.1 hn0 with h | h
        · exact h
        · omega
      have hps : ps.toList = [] := by
        have : ps.toList.length = 0 := by omega
        exact List.length_eq_zero_iff.1 this
      have hits : its = [] := by
        have : its.length = 0 := by rw [hvl, hps]; rfl
        exact List.length_eq_zero_iff.1 this
      have hc : cells = #[] := by simp [cells, hits]
      have hps' : ps = #[] := by simpa using hps
      subst hps'
      subst hn0'
      simp [Instr.buildSlice, run_underlying hu, sizeOf, typeInfo, hi, Instr.fill, newRow, hc, pushW]
      exact congrArg (fun q => w.alloc (Obj.cells q el)) (Array.eq_empty_of_size_eq_zero (by simp))
    · have hfill := Great.fill_whole (s := i.size) (by rw [hsz]; exact hw0) (ps.toList.map fun p => a.eval p.2) ((Array.range (n * i.size)).map (z.cells[· % z.cells.size]!)) (by rw [hsz]; exact hsize) (by
        simp only [List.length_map, Array.size_map, Array.size_range]
        have : ps.toList.length = n := by omega
        rw [this])
      rw [hcells] at hfill
      simp only [Instr.buildSlice, Sem.run_bind, run_underlying hu, Result.andThen_ok, sizeOf, typeInfo, hi, hpl]
      simp [hnum, hn0, zeroValue, typeInfo, hi, hz1, hfill, newRow]
      rfl
  refine Nx.value (v := .slice (some ⟨w.heap.size, 0, none⟩) n n) (w' := pushW w (.cells cells el)) (by
    simp only [execOp, ho]
    rw [Sem.run_bind, hrun]
    rfl) ?_
  have hblk : ∀ z ∈ bs1, z ∈ blks its := fun z hz => by
    rcases hbs1 with rfl | rfl
    · exact hz
    · simp at hz
  have hlt : ∀ z ∈ blks its, z < w.heap.size := fun z hz => by
    obtain ⟨i, h1, h2⟩ := blks_mem hz
    exact Rep.bs_lt _ _ _ _ _ (hh.rep i h1) z h2
  refine hh.fin f1 (useUps_dom _ _ _ _ hg F f2) (hh.st.p.ext.push _) (fun z hz _ => pushW_same _ _ hz) ⟨0, .sl erow.ty, .sl o', xs⟩ [.slice (some ⟨w.heap.size, 0, none⟩) n n] (w.heap.size :: bs1) ?_ ?_ ?_ hd fun ok O' cs' q1 q2 => slot_root rfl q1 q2
  · refine List.nodup_cons.2 ⟨fun hb => absurd (hlt _ (hblk _ hb)) (by omega), ?_⟩
    rcases hbs1 with rfl | rfl
    · exact hh.nodup
    · exact List.nodup_nil
  · intro z hz
    rcases List.mem_cons.1 hz with rfl | hz
    · exact .inl (Nat.le_refl _)
    · exact .inr (hblk z hz)
  · intro ok' k1 k2
    refine .inr ⟨w.heap.size, 0, n, cells, el, (its.map (·.c)).flatten, bs1, ?_, rfl, pushW_new _ _, ?_, ?_, ?_, ?_, ?_⟩
    · rw [← hnl]
    · show xs.length ≤ n
      omega
    · show xs.length ≤ 9223372036854775807
      have h1 : xs.length ≤ xs.length * erow.ty.width := Nat.le_mul_of_pos_right _ hw0
      rw [hnl] at hsm
      omega
    · show 0 + n * erow.ty.width ≤ cells.size
      rw [show cells.size = _ from List.size_toArray .., hcl]; omega
    · intro j hj
      rw [cell_of_heap (pushW_new _ _), Nat.zero_add]
      simp [cells, hj]
    · have := hrl (fun z => ok' z ∨ ¬ z < w.heap.size) (fun z hz => by
        by_cases hlt : z < w.heap.size
        · exact .inl (k1 z hz hlt)
        · exact .inr hlt) (fun z hz hz' => .inl (k2 z hz (fun hm => by
          rcases List.mem_cons.1 hm with rfl | hm
          · exact absurd (hlt _ hz) (by omega)
          · exact hz' hm)))
      refine RepL.imp _ _ _ (fun x c b _ hb hr => Rep.frame (fun z hz hzl => ⟨hz.resolve_right (by simpa using hzl), pushW_same _ _ hzl⟩) _ _ _ _ _ (fun z hz => pushW_same _ _ (hlt z (hblk z (hb z hz)))) hr) this
end
end Go.Rex

/-! What an operation does to the machine: structs written out. -/
set_option linter.unusedSimpArgs false
set_option linter.unusedVariables false
namespace Go.Rex
section
variable {P : Program} {Γ : Ctx} {e : Env} {a : Act} {w : World} {o : Oper}

/-- One field's cells put anew. -/
theorem Rep_fp_set {ok : Nat → Prop} : ∀ {t : Ty} {j : Nat} {k : Nat × Ty} (hk : offOf t j = some k) (o : Ow) (x : t.den) (c : List Value) (b : List Nat) (g : Foc) (c2 : List Value) (b2 : List Nat) (y : Ow × t.den),
    Rep w ok t o x c b → setAt (fp j) [] ⟨t, o, x⟩ g = some y → Rep w ok g.t g.o g.x c2 b2 →
    c2.length = k.2.width ∧ ∃ pre old suf, b = pre ++ old ++ suf ∧ Rep w ok t y.1 y.2 (c.take k.1 ++ c2 ++ c.drop (k.1 + k.2.width)) (pre ++ b2 ++ suf)
  | .pr ta tb, 0, k, hk, o, x, c, b, g, c2, b2, y, hr, hy, hg => by
    simp only [offOf, Option.some.injEq] at hk
    subst hk
    obtain ⟨d1, d2, e1, e2, rfl, rfl, h1, h2⟩ := hr
    simp only [fp, setAt] at hy
    split at hy
    · rename_i hgt
      simp only [Option.map_some, Option.some.injEq] at hy
      subst hy
      obtain ⟨gt, go, gx⟩ := g
      dsimp only at hgt hg
      subst hgt
      refine ⟨Rep.len _ _ _ _ _ hg, [], e1, e2, rfl, ?_⟩
      have hl := Rep.len _ _ _ _ _ h1
      refine ⟨c2, d2, b2, e2, ?_, rfl, hg, h2⟩
      simp [← hl]
    · simp at hy
  | .pr ta tb, j + 1, k, hk, o, x, c, b, g, c2, b2, y, hr, hy, hg => by
    simp only [offOf, Option.map_eq_some_iff] at hk
    obtain ⟨k', hk', rfl⟩ := hk
    obtain ⟨d1, d2, e1, e2, rfl, rfl, h1, h2⟩ := hr
    simp only [fp, setAt, Option.map_eq_some_iff] at hy
    obtain ⟨y', hy', rfl⟩ := hy
    obtain ⟨hl2, pre, old, suf, rfl, h3⟩ := Rep_fp_set hk' o.snd x.2 d2 e2 g c2 b2 y' h2 hy' hg
    have hl := Rep.len _ _ _ _ _ h1
    refine ⟨hl2, e1 ++ pre, old, suf, by simp, d1, _, e1, _, ?_, by simp, h1, h3⟩
    have q1 : (d1 ++ d2).take (k'.1 + ta.width) = d1 ++ d2.take k'.1 := by rw [← hl, Nat.add_comm, List.take_length_add_append]
    have q2 : (d1 ++ d2).drop (k'.1 + ta.width + k'.2.width) = d2.drop (k'.1 + k'.2.width) := by
      rw [← hl, show k'.1 + d1.length + k'.2.width = d1.length + (k'.1 + k'.2.width) by omega, List.drop_length_add_append]
    dsimp only
    rw [q1, q2]
    simp
  | .int _, j, k, hk, _, _, _, _, _, _, _, _, _, _, _ => by cases j <;> simp [offOf] at hk
  | .bool, j, k, hk, _, _, _, _, _, _, _, _, _, _, _ => by cases j <;> simp [offOf] at hk
  | .str, j, k, hk, _, _, _, _, _, _, _, _, _, _, _ => by cases j <;> simp [offOf] at hk
  | .nl, j, k, hk, _, _, _, _, _, _, _, _, _, _, _ => by cases j <;> simp [offOf] at hk
  | .sl _, j, k, hk, _, _, _, _, _, _, _, _, _, _, _ => by cases j <;> simp [offOf] at hk
  | .bx _, j, k, hk, _, _, _, _, _, _, _, _, _, _, _ => by cases j <;> simp [offOf] at hk
  | .arr _ _, j, k, hk, _, _, _, _, _, _, _, _, _, _, _ => by cases j <;> simp [offOf] at hk
  | .fn _ _, j, k, hk, _, _, _, _, _, _, _, _, _, _, _ => by cases j <;> simp [offOf] at hk

theorem fill_step (off : Nat) (c : List Value) (cells : Array Value) (hfit : off + c.length ≤ cells.size) :
    (c.toArray.zipIdx.foldl (fun cs (x : Value × Nat) => cs.setIfInBounds (off + x.2) x.1) cells).toList = cells.toList.take off ++ c ++ cells.toList.drop (off + c.length) := by
  rw [← Array.foldl_toList, Array.toList_zipIdx]
  obtain ⟨g1, g2⟩ := Great.foldl_set off c 0 cells
  apply List.ext_getElem?
  intro k
  rw [Array.getElem?_toList, g2 k]
  simp only [Nat.add_zero]
  have hl : cells.toList.length = cells.size := by simp
  by_cases h1 : k < off
  · rw [if_neg (by omega), List.append_assoc, List.getElem?_append_left (by simp; omega), List.getElem?_take_of_lt h1]; simp
  · by_cases h2 : k < off + c.length
    · rw [if_pos ⟨by omega, h2, by omega⟩, List.append_assoc, List.getElem?_append_right (by simp; omega), List.getElem?_append_left (by simp; omega)]
      simp only [List.length_take]
      rw [show min off cells.toList.length = off by omega]
    · rw [if_neg (by omega), List.getElem?_append_right (by simp; omega), List.getElem?_drop]
      simp only [List.length_append, List.length_take]
      rw [show off + c.length + (k - (min off cells.toList.length + c.length)) = k by omega]; simp

theorem fill_cons {place : Nat → Option (Nat × Nat)} {cells : Array Value} {j off size : Nat} {v : Value} {rest : List (Nat × Value)} {c : List Value} (hp : place j = some (off, size)) (hv : v.cells.toList = c) (hs : c.length = size) (hfit : off + size ≤ cells.size) :
    ∃ cells', cells'.toList = cells.toList.take off ++ c ++ cells.toList.drop (off + size) ∧ Instr.fill place cells ((j, v) :: rest) = Instr.fill place cells' rest := by
  subst hs
  have hva : v.cells = c.toArray := by apply Array.toList_inj.1; rw [hv]
  refine ⟨_, fill_step off c cells hfit, ?_⟩
  conv => lhs; unfold Instr.fill
  simp only [hp, hva]
  rw [if_neg (by simp; omega)]

theorem mapM_sizes {fs : List Field} {f : Field → Nat} (h : ∀ q ∈ fs, ∃ i, P.info? q.type = some i ∧ i.size = f q) :
    (fs.mapM fun q => (do pure (q.offset, ← sizeOf q.type) : Sem (Nat × Nat))).run P w = .ok (fs.map fun q => (q.offset, f q)) w := by
  induction fs with
  | nil => simp
  | cons q fs ih =>
    obtain ⟨i, hi, hs⟩ := h q (by simp)
    have ih := ih fun q hq => h q (by simp [hq])
    have hso : (sizeOf q.type).run P w = .ok (f q) w := by unfold sizeOf typeInfo; simp [hi, hs]
    rw [List.mapM_cons]
    simp only [Sem.run_bind, hso, Result.andThen_ok, Sem.run_pure]
    rw [ih]
    rfl

theorem fillUp_dom : ∀ (l : List (Nat × Sl)) (f : Foc) (rs : Roots) (g : Foc × Roots), fillUp l f rs = some g → ∀ j, lk rs j = none → lk g.2 j = none
  | [], f, rs, g, h, j, hj => by simp only [fillUp, Option.some.injEq] at h; subst h; exact hj
  | (k, s) :: l, f, rs, g, h, j, hj => by
    simp only [fillUp, Option.bind_eq_some_iff] at h
    obtain ⟨g1, hu, y, hy, h⟩ := h
    exact fillUp_dom l _ _ _ h j (useUp_dom hu j hj)

/-- One of two things in hand goes into the other. -/
theorem HaveX.melt {S : Nat → Sl} {nt : Nt} {rs : Roots} {O : Nat → Option Root} {C : Nat → Bool} {cs : Nat → List Value} {bs : Nat → List Nat} {i j k : Item} (h : HaveX Γ S nt a w rs ([i] ++ [j]) O C cs bs)
    (hr : Rep w (okOf Γ O bs) k.f.t k.f.o k.f.x k.c k.b) (hb : ∃ pre old suf, i.b = pre ++ old ++ suf ∧ k.b = pre ++ j.b ++ suf) : HaveX Γ S nt a w rs [k] O C cs bs := by
  obtain ⟨pre, old, suf, h1, h2⟩ := hb
  have hnd := h.nodup
  have hbl : blks ([i] ++ [j]) = i.b ++ j.b := by simp [blks]
  have hown := h.own
  rw [hbl, h1] at hnd
  rw [hbl, h1] at hown
  refine ⟨h.st, h.bd, h.live, h.roots, fun q hq => by simp only [List.mem_singleton] at hq; subst hq; exact hr, ?_, fun z hz => hown z ?_⟩
  · simp only [blks, List.append_nil, h2]
    simp only [List.nodup_append, List.mem_append] at hnd ⊢
    refine ⟨⟨hnd.1.1.1, hnd.2.1, fun x hx y hy => hnd.2.2 x (.inl (.inl hx)) y hy⟩, hnd.1.2.1, fun x hx y hy e => ?_⟩
    rcases hx with hx | hx
    · exact hnd.1.2.2 x (.inl hx) y hy e
    · exact hnd.2.2 y (.inr hy) x hx e.symm
  · simp only [blks, List.append_nil, h2, List.mem_append] at hz ⊢
    rcases hz with (hz | hz) | hz
    · exact .inl (.inl (.inl hz))
    · exact .inr hz
    · exact .inl (.inr hz)

theorem setAt_fp {t : Ty} : ∀ {j : Nat} {o : Ow} {x : t.den} {g : Foc} {y : Ow × t.den}, setAt (fp j) [] ⟨t, o, x⟩ g = some y → ∃ k, offOf t j = some k ∧ k.2 = g.t := by
  induction t with
  | pr ta tb iha ihb =>
    intro j o x g y h
    cases j with
    | zero =>
      simp only [fp, setAt] at h
      split at h
      · rename_i hg
        exact ⟨_, rfl, hg.symm⟩
      · simp at h
    | succ j =>
      simp only [fp, setAt, Option.map_eq_some_iff] at h
      obtain ⟨y', hy', _⟩ := h
      obtain ⟨k, hk, hg⟩ := ihb hy'
      exact ⟨(k.1 + ta.width, k.2), by simp [offOf, hk], hg⟩
  | _ => intro j o x g y h; cases j <;> simp [fp, setAt] at h

theorem fillUp_sound {place : Nat → Option (Nat × Nat)} : ∀ (l : List (Nat × Operand)) (f : Foc) (rs : Roots) (g : Foc × Roots) (c : List Value) (b : List Nat) (cells : Array Value) (O : Nat → Option Root) (C : Nat → Bool) (cs : Nat → List Value) (bs : Nat → List Nat),
    (∀ j k, offOf f.t j = some k → (∃ q ∈ l, q.1 = j) → place j = some (k.1, k.2.width)) →
    HaveX Γ e.slot e.nt a w rs [⟨f, c, b⟩] O C cs bs → cells.toList = c → fillUp (mapL (fun p => (p.1, e.opd p.2)) l) f rs = some g →
    g.1.t = f.t ∧ ∃ O' C' cs' bs' c' b' cells', HaveX Γ e.slot e.nt a w g.2 [⟨g.1, c', b'⟩] O' C' cs' bs' ∧ cells'.toList = c' ∧ Instr.fill place cells (l.map fun p => (p.1, a.eval p.2)) = some cells'
  | [], f, rs, g, c, b, cells, O, C, cs, bs, hp, h, hc, hf => by
    simp only [mapL, fillUp, Option.some.injEq] at hf
    subst hf
    exact ⟨rfl, O, C, cs, bs, c, b, cells, h, hc, rfl⟩
  | (j, x) :: l, f, rs, g, c, b, cells, O, C, cs, bs, hp, h, hc, hf => by
    simp only [mapL, fillUp, Option.bind_eq_some_iff] at hf
    obtain ⟨g1, hu, y, hy, hf⟩ := hf
    obtain ⟨O1, C1, cs1, bs1, c1, b1, h1, hv, _⟩ := useUp_sound h (opd_okX h.st x) hu
    obtain ⟨k, hk, hkt⟩ := setAt_fp hy
    have hr0 := h1.rep ⟨f, c, b⟩ (by simp)
    have hr1 := h1.rep ⟨g1.1, c1, b1⟩ (by simp)
    obtain ⟨hl, pre, old, suf, hb, hr⟩ := Rep_fp_set hk f.o f.x c b g1.1 c1 b1 y hr0 hy hr1
    have hlen := Rep.len _ _ _ _ _ hr0
    dsimp only at hlen
    have hle := offOf_le hk
    have hsz : cells.size = f.t.width := by rw [← Array.length_toList, hc, hlen]
    obtain ⟨cells', q1, q2⟩ := fill_cons (place := place) (cells := cells) (v := a.eval x) (rest := l.map fun p => (p.1, a.eval p.2)) (hp j k hk ⟨(j, x), by simp, rfl⟩) (by rw [hv]; exact hr1.cells) hl (by omega)
    have h2 := h1.melt (k := ⟨⟨f.t, y.1, y.2⟩, c.take k.1 ++ c1 ++ c.drop (k.1 + k.2.width), pre ++ b1 ++ suf⟩) hr ⟨pre, old, suf, hb, rfl⟩
    obtain ⟨e1, O', C', cs', bs', c', b', cells2, k1, k2, k3⟩ := fillUp_sound l ⟨f.t, y.1, y.2⟩ g1.2 g _ _ cells' O1 C1 cs1 bs1 (fun j' k' hk' hq => hp j' k' hk' (by obtain ⟨q, hq1, hq2⟩ := hq; exact ⟨q, by simp [hq1], hq2⟩)) h2 (by rw [q1, hc]) hf
    exact ⟨e1, O', C', cs', bs', c', b', cells2, k1, k2, by rw [List.map_cons, q2]; exact k3⟩

/-- In hand nothing that owns: the state goes on without it. -/
theorem HaveX.dropped {rs : Roots} {items : List Item} {O : Nat → Option Root} {C : Nat → Bool} {cs : Nat → List Value} {bs : Nat → List Nat} (h : HaveX Γ e.slot e.nt a w rs items O C cs bs) :
    StX Γ ⟨e.slot, lk rs, e.nt⟩ a w cs bs ∧ ∀ z, okOf Γ O bs z → okOf Γ (lk rs) bs z := by
  have hx := h.st.drop C
  have hO : (fun r => bif C r then none else O r) = lk rs := by funext j; exact (h.roots j).symm
  refine ⟨by rw [← hO]; exact hx, fun z hz => ⟨hz.1, fun r R hR => hz.2 r R ?_⟩⟩
  have := h.roots r
  rw [hR] at this
  cases hc : C r <;> simp_all

theorem nx_build {t : TypeId} {row : TRow} (hrow : RowOK P t row) (h : St Γ e.ae a w) (hd : dOK e o.dst = true) {F : Nat} (hF : Fresh e F) (ps : Array (Nat × Operand)) (ho : o.op = .build t ps) :
    (buildRes row (mapL (fun p => (p.1, e.opd p.2)) ps.toList) e.ow F).good P Γ o e a w := by
  unfold buildRes
  refine good_bif fun hz => ?_
  split
  · rename_i offs hds
    refine good_ofOpt fun g hg => ?_
    obtain ⟨dd, hu, hag, hdd⟩ := hrow.desc
    rw [hds] at hdd
    obtain ⟨fs, rfl, hfs0, hfs⟩ := hdd
    obtain ⟨i, hi, hsz, hby, hzero⟩ := hrow.info
    obtain ⟨z, hz1, hz2⟩ := hzero hz
    have hagg : row.ty.isAgg = true := hag.symm
    obtain ⟨O0, C0, cs0, bs0, hh0, rfl⟩ := Have.start h
    obtain ⟨f1, f2⟩ := hF
    have hh1 : HaveX Γ e.slot e.nt a w e.ow [⟨⟨row.ty, zeroOw row.ty, row.ty.dflt⟩, zcells row.ty, []⟩] (lk e.ow) C0 cs0 bs0 :=
      ⟨hh0.st, hh0.bd, hh0.live, hh0.roots, fun q hq => by simp only [List.mem_singleton] at hq; subst hq; exact Rep_zero _ hz, by simp [blks], by simp [blks]⟩
    have hsizes : ∀ q ∈ fs.toList, ∃ i, P.info? q.type = some i ∧ i.size = (fun q : Field => ((P.info? q.type).map (·.size)).getD 0) q := fun q hq => by
      obtain ⟨j, hj, rfl⟩ := List.mem_iff_getElem.1 hq
      obtain ⟨f, k, i, df, g1, g2, g3, g4, g5, _⟩ := hfs j (by simp at hj; omega)
      have : fs.toList[j] = f := by
        have := List.getElem?_eq_getElem hj
        rw [Array.getElem?_toList, g1] at this
        exact (Option.some.inj this).symm
      rw [this]
      exact ⟨i, g4, by simp [g4]⟩
    have hmap := mapM_sizes (w := w) hsizes
    let places : Array (Nat × Nat) := (fs.toList.map fun q => (q.offset, ((P.info? q.type).map (·.size)).getD 0)).toArray
    have hplace : ∀ j k, offOf row.ty j = some k → j < lenL offs → places[j]? = some (k.1, k.2.width) := fun j k hk hj => by
      obtain ⟨f, k', i, df, g1, g2, g3, g4, g5, _⟩ := hfs j hj
      rw [hk] at g2
      obtain rfl := Option.some.inj g2
      simp only [places, List.getElem?_toArray, List.getElem?_map, Array.getElem?_toList, g1, Option.map_some, g4, g3, g5]
      rfl
    have hlenall : ∀ j k, offOf row.ty j = some k → j < lenL offs := hfs0.2
    obtain ⟨hgt, O, C, cs, bs, c, b, cells, hh, hc, hfill⟩ := fillUp_sound (place := fun j => places[j]?) ps.toList ⟨row.ty, zeroOw row.ty, row.ty.dflt⟩ e.ow g (zcells row.ty) [] z.cells _ _ _ _ (fun j k hk _ => hplace j k hk (hlenall j k hk)) hh1 hz2 hg
    have hrun : (execOp a.eval o).run P w = .ok (.value (.agg cells)) w := by
      have hfm : (fs.mapM fun q => (do pure (q.offset, ← sizeOf q.type) : Sem (Nat × Nat))).run P w = .ok places w := by
        rw [Array.mapM_eq_mapM_toList, map_eq_pure_bind, Sem.run_bind, hmap]
        rfl
      have hps : (ps.map fun (i, x) => (i, a.eval x)).toList = ps.toList.map fun p => (p.1, a.eval p.2) := by rw [Array.toList_map]
      simp only [execOp, ho, Instr.build, Sem.run_bind, zeroValue, typeInfo]
      have hfm2 := hfm
      simp only [bind_pure_comp] at hfm2
      have e0 : (fun f : Field => (fun a => (f.offset, a)) <$> sizeOf f.type) = fun f => Prod.mk f.offset <$> sizeOf f.type := rfl
      simp [hi, hz1, run_underlying hu, hfm2, hps, hfill]
    have hr := hh.rep ⟨g.1, c, b⟩ (by simp)
    have hpk : pack g.1.t c = .agg cells := by
      dsimp only at hgt
      simp only [pack, hgt, hagg, cond_true]
      congr 1
      apply Array.toList_inj.1; rw [hc]
    unfold newRes
    cases hp : g.1.o.pure
    · simp only [cond_false]
      intro _
      refine Nx.value hrun ?_
      refine hh.fin f1 (fillUp_dom _ _ _ _ hg F f2) hh.st.p.ext (fun z hz _ => rfl) ⟨0, g.1.t, g.1.o, g.1.x⟩ c b (by have := hh.nodup; simpa [blks] using this) (fun z hz => .inr (by simpa [blks] using hz)) (fun ok' k1 k2 => ?_) hd fun ok O' cs' q1 q2 => hpk ▸ slot_root rfl q1 q2
      refine Rep.frame (ok := fun z => okOf Γ O bs z) (fun z hz hlt => ⟨k1 z hz hlt, rfl⟩) _ _ _ _ _ (fun _ _ => rfl) hr
    · simp only [cond_true]
      intro _
      obtain ⟨hx, hok⟩ := hh.dropped
      refine Nx.value hrun (St.fin hx hd ?_)
      have hr' := Rep.weaken _ _ _ _ _ _ (pure_le_no hp) hr
      have hb0 := Rep.no_bs _ _ _ _ hr'
      dsimp only at hb0
      subst hb0
      exact ⟨c, Rep.frame (fun z hz _ => ⟨hok z hz, rfl⟩) _ _ _ _ _ (fun _ _ => rfl) hr', hpk.symm⟩
  · trivial
end
end Go.Rex

/-! What an operation does to the machine: append. -/
set_option linter.unusedSimpArgs false
set_option linter.unusedVariables false
namespace Go.Rex
section
variable {P : Program} {Γ : Ctx} {e : Env} {a : Act} {w : World} {o : Oper}

theorem len_nil {α : Type} {R : α → List Value → List Nat → Prop} {ys : List α} {es : List Value} {bs : List Nat} (h : RepL R ys es bs) (h0 : ys.length = 0) : es = [] ∧ bs = [] := by
  obtain rfl := List.length_eq_zero_iff.1 h0
  exact h
theorem RdSl.open_ {ok : Nat → Prop} {t : Ty} {xs : List t.den} {c : List Value} {b : List Nat} (h : Rep w ok (.sl t) .no xs c b) :
    b = [] ∧ ∃ A cp es, c = [.slice A (List.length xs) cp] ∧ (List.length xs = 0 ∨ ∃ g off, A = some ⟨g, off, none⟩ ∧ At w g off es) ∧ RepL (Rep w ok t .no) xs es [] := by
  obtain ⟨rfl, A, cp, rfl, _, _, h⟩ := h
  refine ⟨rfl, ?_⟩
  rcases h with rfl | ⟨g, off, es, rfl, _, _, hat, hr⟩
  · exact ⟨A, cp, [], rfl, .inl rfl, ⟨rfl, rfl⟩⟩
  · exact ⟨_, cp, es, rfl, .inr ⟨g, off, rfl, hat⟩, hr⟩
theorem OwSl.open_ {ok : Nat → Prop} {t : Ty} {o2 : Ow} {xs : List t.den} {c : List Value} {b : List Nat} (h : Rep w ok (.sl t) (.sl o2) xs c b) :
    ∃ A cp es bB, c = [.slice A (List.length xs) cp] ∧ (List.length xs = 0 ∨ ∃ g off, A = some ⟨g, off, none⟩ ∧ At w g off es) ∧ RepL (Rep w ok t o2) xs es bB ∧ bB.Sublist b := by
  rcases h with ⟨rfl, rfl, rfl⟩ | ⟨g, off, cp, cur, el, es, bs', rfl, rfl, hh, h1, h2, h3, hat, hr⟩
  · exact ⟨none, 0, [], [], rfl, .inl rfl, ⟨rfl, rfl⟩, List.Sublist.refl _⟩
  · exact ⟨_, cp, es, bs', rfl, .inr ⟨g, off, rfl, hat⟩, hr, List.sublist_cons_self _ _⟩
theorem zok_width_pack {u : Ty} {c : List Value} : pack (.sl u) c = c.headD undef := rfl

theorem appX_sound {t : Ty} {x : Sl} {rs rs' : Roots} {f : Foc} {o2 : Ow} {items : List Item} {v : Value} {O : Nat → Option Root} {C : Nat → Bool} {cs : Nat → List Value} {bs : Nat → List Nat} (h : HaveX Γ e.slot e.nt a w rs items O C cs bs)
    (hs : SlotOK w (okOf Γ O bs) O cs x v) (hx : appX t x rs = some (f, (o2, rs'))) :
    ∃ O' C' cs' bs' its, HaveX Γ e.slot e.nt a w rs' (items ++ its) O' C' cs' bs' ∧ ∀ (u : Ty) (o : Ow) (ys : List u.den), f = ⟨.sl u, o, ys⟩ → ∃ A cp es bB, v = .slice A ys.length cp ∧ (ys.length = 0 ∨ ∃ b off, A = some ⟨b, off, none⟩ ∧ At w b off es) ∧
      RepL (Rep w (okOf Γ O' bs') u o2) ys es bB ∧ bB.Sublist (blks its) := by
  cases x with
  | dt t' y =>
    cases t' <;> simp only [appX] at hx <;> try (simp at hx; done)
    rename_i u'
    simp only [Option.some.injEq, Prod.mk.injEq] at hx
    obtain ⟨rfl, rfl, rfl⟩ := hx
    obtain ⟨c, hr, rfl⟩ := hs
    refine ⟨O, C, cs, bs, [], by simpa using h, fun u o ys he => ?_⟩
    simp only [Foc.mk.injEq, Ty.sl.injEq] at he
    obtain ⟨rfl, rfl, he⟩ := he
    obtain rfl := eq_of_heq he
    obtain ⟨_, A, cp, es, rfl, h1, h2⟩ := RdSl.open_ hr
    exact ⟨A, cp, es, [], rfl, h1, h2, by simp [blks]⟩
  | nilS =>
    simp only [appX, Option.some.injEq, Prod.mk.injEq] at hx
    obtain ⟨rfl, rfl, rfl⟩ := hx
    refine ⟨O, C, cs, bs, [], by simpa using h, fun u o ys he => ?_⟩
    simp only [Foc.mk.injEq, Ty.sl.injEq] at he
    obtain ⟨rfl, rfl, he⟩ := he
    obtain rfl := eq_of_heq he
    exact ⟨none, 0, [], [], hs, .inl rfl, ⟨rfl, rfl⟩, by simp [blks]⟩
  | rf r ver p ix =>
    simp only [appX, Option.bind_eq_some_iff] at hx
    obtain ⟨q, hq, hx⟩ := hx
    obtain ⟨h1, h2, h3, h4, L, hop, hv⟩ := ownSlice_sound h.st.p (fun r R hR => h.look hR) hs hq
    obtain ⟨b0, hLr⟩ := hop.rep
    have ht := hop.t
    rw [← h4] at hLr ht
    split at hx
    · rename_i ho
      simp only [Option.some.injEq, Prod.mk.injEq] at hx
      obtain ⟨rfl, rfl, rfl⟩ := hx
      refine ⟨O, C, cs, bs, [], by simpa using h, fun u o ys he => ?_⟩
      rw [he] at hLr ht ho
      dsimp only at ho
      subst ho
      obtain ⟨_, A, cp, es, hc, k1, k2⟩ := RdSl.open_ hLr
      exact ⟨A, cp, es, [], by rw [hv, ht, hc]; rfl, k1, k2, by simp [blks]⟩
    · rename_i ho
      simp only [Option.some.injEq, Prod.mk.injEq] at hx
      obtain ⟨rfl, rfl, rfl⟩ := hx
      refine ⟨O, C, cs, bs, [], by simpa using h, fun u o ys he => ?_⟩
      rw [he] at hLr ht ho
      dsimp only at ho
      subst ho
      obtain ⟨hc, k1, k2⟩ := hLr
      dsimp only at k1
      subst k1
      exact ⟨none, 0, [], [], by rw [hv, ht, hc]; rfl, .inl rfl, ⟨rfl, rfl⟩, by simp [blks]⟩
    · rename_i o9 ho
      cases hp : o9.pure <;> rw [hp] at hx
      · simp only [cond_false, Option.bind_eq_some_iff] at hx
        obtain ⟨g, hu, hx⟩ := hx
        split at hx
        · rename_i o3 ho3
          simp only [Option.some.injEq, Prod.mk.injEq] at hx
          obtain ⟨rfl, rfl, rfl⟩ := hx
          obtain ⟨O', C', cs', bs', c, b, g1, g2, _⟩ := useUp_sound h hs hu
          have hr := g1.rep ⟨g.1, c, b⟩ (by simp)
          refine ⟨O', C', cs', bs', [⟨g.1, c, b⟩], g1, fun u o ys he => ?_⟩
          dsimp only at hr
          rw [he] at hr g2 ho3
          dsimp only at hr ho3
          subst ho3
          obtain ⟨A, cp, es, bB, rfl, k1, k2, k3⟩ := OwSl.open_ hr
          exact ⟨A, cp, es, bB, g2, k1, k2, by simpa [blks] using k3⟩
        · simp at hx
      · simp only [cond_true, Option.some.injEq, Prod.mk.injEq] at hx
        obtain ⟨rfl, rfl, rfl⟩ := hx
        refine ⟨O, C, cs, bs, [], by simpa using h, fun u o ys he => ?_⟩
        rw [he] at hLr ht ho
        dsimp only at ho
        subst ho
        obtain ⟨A, cp, es, bB, hc, k1, k2, k3⟩ := OwSl.open_ hLr
        have k4 : RepL (Rep w (okOf Γ O bs) u .no) ys es bB := RepL.imp0 (fun x c b hr => Rep.weaken _ _ _ _ _ _ (pure_le_no hp) hr) _ _ _ k2
        have hb0 := RepL.no_bs (fun x c b hr => Rep.no_bs _ _ _ _ hr) _ _ _ k4
        subst hb0
        exact ⟨A, cp, es, [], by rw [hv, ht, hc]; rfl, k1, k4, by simp [blks]⟩
    · simp at hx
  | _ => simp [appX] at hx

theorem RepL.dem {ok ok' : Nat → Prop} (hok : ∀ b, ok b → ok' b) {t : Ty} {o : Ow} (hd : Ow.demotes t o = true) : ∀ (xs : List t.den) (cs : List Value) (bs : List Nat), (∀ b ∈ bs, ok' b) → RepL (Rep w ok t o) xs cs bs → RepL (Rep w ok' t .no) xs cs []
  | [], cs, bs, _, h => ⟨h.1, rfl⟩
  | x :: xs, cs, bs, hb, h => by
    obtain ⟨c1, c2, b1, b2, rfl, rfl, h1, h2⟩ := h
    exact ⟨c1, c2, [], [], rfl, rfl, Rep.demote hok _ _ _ _ _ hd (fun b h => hb b (by simp [h])) h1, RepL.dem hok hd xs c2 b2 (fun b h => hb b (by simp [h])) h2⟩

theorem appJ_rep {ok0 : Nat → Prop} {t : Ty} {o1 o2 o' : Ow} (hj : appJ t o1 o2 = some o') {xs ys : List t.den} {olds es : List Value} {bA bB : List Nat} (hA : RepL (Rep w ok0 t o1) xs olds bA) (hB : RepL (Rep w ok0 t o2) ys es bB) :
    ∃ bs, (bs = bA ++ bB ∨ bs = []) ∧ ∀ ok : Nat → Prop, (∀ b, ok0 b → ok b) → (∀ b ∈ bA ++ bB, b ∉ bs → ok b) → RepL (Rep w ok t o') (xs ++ ys) (olds ++ es) bs := by
  unfold appJ at hj
  split at hj
  · rename_i o ho
    obtain rfl := Option.some.inj hj
    obtain ⟨h1, h2⟩ := supAll_imp _ _ _ ho
    refine ⟨bA ++ bB, .inl rfl, fun ok h0 _ => RepL.append _ _ _ _ _ _ ?_ ?_⟩
    · exact RepL.imp0 (fun x c b hr => Rep.frame (fun b hb _ => ⟨h0 b hb, rfl⟩) _ _ _ _ _ (fun _ _ => rfl) (h1 _ _ _ _ _ _ hr)) _ _ _ hA
    · exact RepL.imp0 (fun x c b hr => Rep.frame (fun b hb _ => ⟨h0 b hb, rfl⟩) _ _ _ _ _ (fun _ _ => rfl) (h2 o2 (by simp) _ _ _ _ _ _ hr)) _ _ _ hB
  · cases hd : (Ow.demotes t o1 && Ow.demotes t o2) <;> rw [hd] at hj
    · simp at hj
    simp only [cond_true, Option.some.injEq] at hj
    subst hj
    simp only [Bool.and_eq_true] at hd
    exact ⟨[], .inr rfl, fun ok h0 h1 => RepL.append _ _ _ _ [] [] (RepL.dem h0 hd.1 _ _ _ (fun b hb => h1 b (by simp [hb]) (by simp)) hA) (RepL.dem h0 hd.2 _ _ _ (fun b hb => h1 b (by simp [hb]) (by simp)) hB)⟩

/-- What append comes to. -/
theorem run_appendX {t ty el : TypeId} {erow : TRow} (hu : P.underlying t = some (.slice el)) (hrow : RowOK P el erow) (hz : erow.ty.zok = true) (hw0 : 0 < erow.ty.width) {n m : Nat} (hnm : n + m ≤ 4294967296) {A : Option Addr} {c2 : Nat} {es : List Value}
    (hel : es.length = m * erow.ty.width) (hx : m = 0 ∨ ∃ b off, A = some ⟨b, off, none⟩ ∧ At w b off es) (h1 : ∀ u ∈ es, u.oneCell' = true) {sv : Value} {olds : List Value} (hol : olds.length = n * erow.ty.width) :
    (sv = .slice none 0 0 → n = 0 → ∃ v' w', (Builtin.append_ #[t, t] ty #[sv, .slice A m c2]).run P w = .ok v' w' ∧ ((v' = .slice none 0 0 ∧ n + m = 0 ∧ w' = w) ∨ (w'.ownsRow w.heap.size el erow.ty.width v' (n + m) (olds ++ es) ∧ w.grownBy w' none))) ∧
    (∀ b off c cur e0, sv = .slice (some ⟨b, off, none⟩) n c → w.heap[b]? = some (.cells cur e0 (0, 0)) → n ≤ c → off + c * erow.ty.width ≤ cur.size → At w b off olds →
      ∃ v' w', (Builtin.append_ #[t, t] ty #[sv, .slice A m c2]).run P w = .ok v' w' ∧ ((v' = .slice (some ⟨b, off, none⟩) (n + m) c ∧ n + m ≤ c ∧ w' = w.setRow b (cur.toList.take (off + n * erow.ty.width) ++ es ++ cur.toList.drop (off + n * erow.ty.width + es.length)).toArray) ∨
        (w'.ownsRow w.heap.size el erow.ty.width v' (n + m) (olds ++ es) ∧ w.grownBy w' none))) := by
  obtain ⟨i, hi, hsz, hby, hzero⟩ := hrow.info
  obtain ⟨z, hz1, hz2⟩ := hzero hz
  have hzw : z.cells.size = erow.ty.width := by
    have := Rep.len _ _ _ _ _ (Rep_zero (w := w) (ok := fun _ => True) erow.ty hz)
    rw [← hz2] at this; simpa using this
  have hmax : n + m ≤ maxLen := by unfold maxLen; omega
  have hbytes : (n + m) * i.bytes ≤ 140737488355328 := by
    rw [hby]
    have := Nat.mul_le_mul hnm hrow.small.1
    omega
  have hnil : m = 0 → es = [] := fun h => by subst h; exact List.length_eq_zero_iff.1 (by simpa using hel)
  have hcell : ∀ b off, A = some ⟨b, off, none⟩ → At w b off es → ∀ j u, es[j]? = some u → w.cell? ((⟨b, off, none⟩ : Addr).add j) = some u := fun b off _ hat j u hj => by
    obtain ⟨hj', rfl⟩ := List.getElem?_eq_some_iff.1 hj
    rw [add_plain]; exact hat j hj'
  refine ⟨fun hsv hn0 => ?_, fun b off c cur e0 hsv hh hnc hfit hat => ?_⟩
  · subst hsv
    subst hn0
    have ho : olds = [] := List.length_eq_zero_iff.1 (by simpa using hol)
    subst ho
    by_cases hm : m = 0
    · obtain rfl := hnil hm
      subst hm
      refine ⟨.slice none 0 0, w, ?_, .inl ⟨rfl, rfl, rfl⟩⟩
      cases A <;> simp [Builtin.append_, run_underlying hu, sizeOf, typeInfo, hi, Builtin.lenOf, Builtin.firstCells, loadCells, loadCellsFrom]
    · obtain ⟨b, off, rfl, hatx⟩ := hx.resolve_left hm
      obtain ⟨v', w', hrun, r1, r2, _⟩ := run_append_own (P := P) w w.heap.size t ty el i z erow.ty.width i.bytes hu hi hz1 hsz rfl hzw hw0 (.slice none 0 0) 0 [] (World.ownsRow_nil w _ el _) ⟨b, off, none⟩ m c2 es hel (hcell b off rfl hatx) h1 hmax hbytes (Nat.le_refl _)
      exact ⟨v', w', hrun, .inr ⟨r1, r2⟩⟩
  · subst hsv
    by_cases hroom : n + m ≤ c
    · refine ⟨.slice (some ⟨b, off, none⟩) (n + m) c, _, ?_, .inl ⟨rfl, hroom, rfl⟩⟩
      have hfit2 : off + n * erow.ty.width + es.length ≤ cur.size := by
        rw [hel, Nat.add_assoc, ← Nat.add_mul]
        exact Nat.le_trans (Nat.add_le_add_left (Nat.mul_le_mul_right _ hroom) _) hfit
      have hst := run_storeCells_at P b (off + n * erow.ty.width) e0 es 0 cur w hh (by simpa using hfit2) h1
      simp only [Nat.add_zero] at hst
      by_cases hm : m = 0
      · obtain rfl := hnil hm
        subst hm
        simp only [Nat.add_zero] at hroom ⊢
        cases A <;> simp [Builtin.append_, run_underlying hu, sizeOf, typeInfo, hi, Builtin.lenOf, hroom, Builtin.firstCells, loadCells, loadCellsFrom, add_plain, hsz, hst] <;> simpa using hst
      · obtain ⟨b2, off2, rfl, hatx⟩ := hx.resolve_left hm
        have hf := run_firstCells_some (P := P) w i.size m ⟨b2, off2, none⟩ m c2 es (by rw [hsz]; exact hel) (hcell b2 off2 rfl hatx)
        rw [hsz] at hf
        simp [Builtin.append_, run_underlying hu, sizeOf, typeInfo, hi, Builtin.lenOf, hroom, hf, add_plain, hst, hsz]
    · have hm : m ≠ 0 := by omega
      obtain ⟨b2, off2, rfl, hatx⟩ := hx.resolve_left hm
      obtain ⟨v', w', hrun, r1, r2⟩ := run_append_arg_grows (P := P) w t ty el i z erow.ty.width i.bytes hu hi hz1 hsz rfl hzw hw0 ⟨b, off, none⟩ n c olds hol (fun j u hj => by
        obtain ⟨hj', rfl⟩ := List.getElem?_eq_some_iff.1 hj
        rw [add_plain]; exact hat j hj') ⟨b2, off2, none⟩ m c2 es hel (hcell b2 off2 rfl hatx) (by omega) hmax hbytes
      exact ⟨v', w', hrun, .inr ⟨r1, r2⟩⟩
end
end Go.Rex

/-! What an operation does to the machine: append, told. -/
set_option linter.unusedSimpArgs false
set_option linter.unusedVariables false
namespace Go.Rex
section
variable {P : Program} {Γ : Ctx} {e : Env} {a : Act} {w : World} {o : Oper}

theorem appS_open {ok : Nat → Prop} {t : Ty} {o o1 : Ow} {xs : List t.den} {c : List Value} {b : List Nat} (ho : appS t o = some o1) (h : Rep w ok (.sl t) o xs c b) :
    (c = [.slice none 0 0] ∧ xs = [] ∧ b = []) ∨ ∃ g off cp cur el es bA, c = [.slice (some ⟨g, off, none⟩) xs.length cp] ∧ b = g :: bA ∧ w.heap[g]? = some (.cells cur el (0, 0)) ∧ xs.length ≤ cp ∧ off + cp * t.width ≤ cur.size ∧ At w g off es ∧ RepL (Rep w ok t o1) xs es bA := by
  cases o <;> simp only [appS] at ho <;> try (simp at ho; done)
  · exact .inl h
  · obtain rfl := Option.some.inj ho
    rcases h with h | ⟨g, off, cp, cur, el, es, bs', h1, h2, h3, h4, h5, h6, h7, h8⟩
    · exact .inl h
    · exact .inr ⟨g, off, cp, cur, el, es, bs', h1, h2, h3, h4, h6, h7, h8⟩

theorem Ext.grown {w' : World} (h : Ext Γ w) (hg : w.grownBy w' none) : Ext Γ w' :=
  ⟨hg.os.trans h.os, hg.tape.trans h.tape, hg.output.trans h.output, Nat.le_trans h.size hg.size, fun b h1 h2 =>
    (hg.block b (Nat.lt_of_lt_of_le h1 h.size) (by simp)).trans (h.same b h1 h2)⟩

theorem nx_append {t el : TypeId} {erow : TRow} (hu : P.underlying t = some (.slice el)) (hrow : RowOK P el erow) (h : St Γ e.ae a w) (hd : dOK e o.dst = true) {F : Nat} (hF : Fresh e F) (s x : Operand) (ats : Array TypeId) (hats : ats = #[t, t])
    (ho : o.op = .call { callee := .builtin .append, args := #[s, x], argTypes := ats }) : (appendRes erow (e.opd s) (e.opd x) e.ow F).good P Γ o e a w := by
  subst hats
  unfold appendRes
  rw [wid_eq]
  refine good_bif fun hzw => good_ofOpt fun g hg => ?_
  simp only [Bool.and_eq_true] at hzw
  obtain ⟨hz, hw0⟩ := hzw
  have hw0 : 0 < erow.ty.width := by simpa using hw0
  obtain ⟨f, rs1⟩ := g
  obtain ⟨O0, C0, cs0, bs0, hh0, rfl⟩ := Have.start h
  obtain ⟨f1, f2⟩ := hF
  obtain ⟨O1, C1, cs1, bs1, c, b, h1, hv, _⟩ := useUp_sound hh0 (opd_okX hh0.st s) hg
  simp only [List.nil_append] at h1
  split
  · rename_i t' os xs heq
    dsimp only at heq
    subst heq
    refine good_bif fun hk => good_ofOpt fun o1 ho1 => good_ofOpt fun hx hxx => ?_
    have hk := Ty.eqb_eq hk
    subst hk
    obtain ⟨fx, o2, rs2⟩ := hx
    obtain ⟨O, C, cs, bs, its, h2, hX⟩ := appX_sound h1 (opd_okX h1.st x) hxx
    dsimp only
    split
    · rename_i u ou ys
      split
      · rename_i hut
        subst hut
        refine good_ofOpt fun o' ho' hlen => ?_
        dsimp only at ho' hlen ⊢
        obtain ⟨A, cp2, es, bB, hxv, hx0, hrB, hsub⟩ := hX _ _ _ rfl
        have hr := h2.rep ⟨⟨.sl erow.ty, os, xs⟩, c, b⟩ (by simp)
        dsimp only at hr hv
        have hlenle : xs.length + ys.length ≤ 4294967296 := by simpa [lenOK] using hlen
        have hbl : blks ([⟨⟨.sl erow.ty, os, xs⟩, c, b⟩] ++ its) = b ++ blks its := by simp [blks]
        have hnd := h2.nodup
        rw [hbl] at hnd
        have hown := h2.own
        rw [hbl] at hown
        have hlt : ∀ z ∈ b ++ blks its, z < w.heap.size := fun z hz => by
          obtain ⟨k, R, _, q2, q3⟩ := hown z hz
          exact Rep.bs_lt _ _ _ _ _ (h2.st.p.rep k R q2) z q3
        have hel := RepL.len (Rep.len erow.ty o2) _ _ _ hrB
        have hone := RepL.one (Rep.one erow.ty o2) _ _ _ hrB
        have hoknb : ∀ z, okOf Γ O bs z → z ∉ b ++ blks its := fun z hz hm => by
          obtain ⟨k, R, _, q2, q3⟩ := hown z hm
          exact hz.2 k R q2 q3
        have hexec : ∀ v' w', (Builtin.append_ #[t, t] o.type #[a.eval s, a.eval x]).run P w = .ok v' w' → (execOp a.eval o).run P w = .ok (.value v') w' := fun v' w' hrun => by
          simp [execOp, ho, resolve, invoke, builtin, hrun, Result.andThen]
        have fin : ∀ (v' : Value) (w' : World) (bsF : List Nat), (Builtin.append_ #[t, t] o.type #[a.eval s, a.eval x]).run P w = .ok v' w' → Ext Γ w' → (∀ z, z < w.heap.size → (∀ c R, C c = true → O c = some R → z ∉ bs c) → Same w w' z) → bsF.Nodup →
            (∀ z ∈ bsF, w.heap.size ≤ z ∨ z ∈ b ++ blks its) → (∀ ok' : Nat → Prop, (∀ z, okOf Γ O bs z → z < w.heap.size → ok' z) → (∀ z ∈ b ++ blks its, z ∉ bsF → ok' z) → Rep w' ok' (.sl erow.ty) (.sl o') (xs ++ ys) [v'] bsF) →
            Nx P Γ o e a w (.rf F 0 [] []) (rapp rs2 F ⟨0, .sl erow.ty, .sl o', xs ++ ys⟩) := fun v' w' bsF hrun hext hsame hn hb hrep => by
          refine Nx.value (hexec _ _ hrun) ?_
          refine h2.fin f1 ?_ hext hsame ⟨0, .sl erow.ty, .sl o', xs ++ ys⟩ [v'] bsF hn (by rw [hbl]; exact hb) (fun ok' k1 k2 => hrep ok' k1 (by rw [hbl] at k2; exact k2)) hd fun ok O' cs' q1 q2 => slot_root rfl q1 q2
          · have hd1 := useUp_dom hg F f2
            have : ∀ (x : Sl) (rs rs' : Roots) (f : Foc) (o2 : Ow), appX erow.ty x rs = some (f, (o2, rs')) → lk rs F = none → lk rs' F = none := fun x rs rs' f o2 hx hj => by
              cases x with
              | dt t' y =>
                cases t' <;> simp only [appX] at hx <;> try (simp at hx; done)
                simp only [Option.some.injEq, Prod.mk.injEq] at hx
                obtain ⟨_, _, rfl⟩ := hx
                exact hj
              | nilS =>
                simp only [appX, Option.some.injEq, Prod.mk.injEq] at hx
                obtain ⟨_, _, rfl⟩ := hx
                exact hj
              | rf r ver p ix =>
                simp only [appX, Option.bind_eq_some_iff] at hx
                obtain ⟨q, hq, hx⟩ := hx
                split at hx
                · simp only [Option.some.injEq, Prod.mk.injEq] at hx
                  obtain ⟨_, _, rfl⟩ := hx
                  exact hj
                · simp only [Option.some.injEq, Prod.mk.injEq] at hx
                  obtain ⟨_, _, rfl⟩ := hx
                  exact hj
                · rename_i o9 _
                  cases hp : o9.pure <;> rw [hp] at hx
                  · simp only [cond_false, Option.bind_eq_some_iff] at hx
                    obtain ⟨g, hu, hx⟩ := hx
                    split at hx
                    · simp only [Option.some.injEq, Prod.mk.injEq] at hx
                      obtain ⟨_, _, rfl⟩ := hx
                      exact useUp_dom hu F hj
                    · simp at hx
                  · simp only [cond_true, Option.some.injEq, Prod.mk.injEq] at hx
                    obtain ⟨_, _, rfl⟩ := hx
                    exact hj
                · simp at hx
              | _ => simp [appX] at hx
            exact this _ _ _ _ _ hxx hd1
        -- rows that lie in a new block
        have grow : ∀ (v' : Value) (w' : World) (olds : List Value) (bA : List Nat), RepL (Rep w (okOf Γ O bs) erow.ty o1) xs olds bA → (∀ z ∈ bA, z ∈ b) → bA.Nodup → (Builtin.append_ #[t, t] o.type #[a.eval s, a.eval x]).run P w = .ok v' w' →
            w'.ownsRow w.heap.size el erow.ty.width v' (xs.length + ys.length) (olds ++ es) → w.grownBy w' none → Nx P Γ o e a w (.rf F 0 [] []) (rapp rs2 F ⟨0, .sl erow.ty, .sl o', xs ++ ys⟩) := fun v' w' olds bA hrA hbA hndA hrun hrow' hgr => by
          have hsm : ∀ z, z < w.heap.size → Same w w' z := fun z hz => hgr.block z hz (by simp)
          rcases hrow'.2 with ⟨rfl, h0⟩ | ⟨gg, cap, cur, rfl, hge, hhp, hnc, hcm, hcs, htk⟩
          · refine fin _ _ [] hrun (h2.st.p.ext.grown hgr) (fun z hz _ => hsm z hz) (by simp) (by simp) fun ok' _ _ => .inl ⟨rfl, ?_, rfl⟩
            exact List.length_eq_zero_iff.1 (by rw [List.length_append]; exact h0)
          · obtain ⟨bsJ, hbsJ, hJ⟩ := appJ_rep ho' hrA hrB
            have hsubJ : ∀ z ∈ bsJ, z ∈ b ++ blks its := fun z hz => by
              rcases hbsJ with rfl | rfl
              · rcases List.mem_append.1 hz with hz | hz
                · exact List.mem_append.2 (.inl (hbA z hz))
                · exact List.mem_append.2 (.inr (hsub.subset hz))
              · simp at hz
            have hndJ : bsJ.Nodup := by
              rcases hbsJ with rfl | rfl
              · exact List.nodup_append.2 ⟨hndA, hsub.nodup (List.nodup_append.1 hnd).2.1, fun z hz y hy e => (List.nodup_append.1 hnd).2.2 z (hbA z hz) y (hsub.subset hy) e⟩
              · simp
            refine fin _ _ (gg :: bsJ) hrun (h2.st.p.ext.grown hgr) (fun z hz _ => hsm z hz) (List.nodup_cons.2 ⟨fun hm => absurd (hlt _ (hsubJ _ hm)) (by omega), hndJ⟩) (fun z hz => ?_) fun ok' k1 k2 => ?_
            · rcases List.mem_cons.1 hz with rfl | hz
              · exact .inl hge
              · exact .inr (hsubJ z hz)
            · have hlen' : (olds ++ es).length = (xs.length + ys.length) * erow.ty.width := hrow'.1
              refine .inr ⟨gg, 0, cap, cur, el, olds ++ es, bsJ, ?_, rfl, hhp, ?_, ?_, ?_, ?_, ?_⟩
              · simp
              · simpa using hnc
              · simp; omega
              · rw [hcs]; omega
              · intro j hj
                rw [cell_of_heap hhp, Nat.zero_add, ← Array.getElem?_toList]
                have : (olds ++ es)[j]? = some (olds ++ es)[j] := List.getElem?_eq_getElem hj
                rw [← this, ← htk, List.getElem?_take_of_lt (by rw [← hlen']; exact hj)]
              · have := hJ (fun z => ok' z ∨ ¬ z < w.heap.size) (fun z hz => by
                  by_cases hl : z < w.heap.size
                  · exact .inl (k1 z hz hl)
                  · exact .inr hl) (fun z hz hz' => .inl (k2 z (by
                    rcases List.mem_append.1 hz with hz | hz
                    · exact List.mem_append.2 (.inl (hbA z hz))
                    · exact List.mem_append.2 (.inr (hsub.subset hz))) (fun hm => by
                  rcases List.mem_cons.1 hm with rfl | hm
                  · have : z < w.heap.size := by
                      rcases List.mem_append.1 hz with hz | hz
                      · exact hlt _ (List.mem_append.2 (.inl (hbA _ hz)))
                      · exact hlt _ (List.mem_append.2 (.inr (hsub.subset hz)))
                    omega
                  · exact hz' hm)))
                exact RepL.imp _ _ _ (fun x c b _ hb hr => Rep.frame (fun z hz hzl => ⟨hz.resolve_right (by simpa using hzl), hsm z hzl⟩) _ _ _ _ _ (fun z hz => hsm z (hlt z (hsubJ z (hb z hz)))) hr) this
        rcases appS_open ho1 hr with ⟨hc, hxs, hb⟩ | ⟨blk, off, cp, cur, e0, olds, bA, hc, hb, hh, hnc, hfit, hat, hrA⟩
        · have hsv : a.eval s = .slice none 0 0 := by rw [hv, hc]; rfl
          obtain ⟨v', w', hrun, hres⟩ := (run_appendX (ty := o.type) (c2 := cp2) (sv := a.eval s) (n := xs.length) (olds := []) hu hrow hz hw0 hlenle hel hx0 hone (by simp [hxs])).1 hsv (by simp [hxs])
          rw [← hxv] at hrun
          rcases hres with ⟨rfl, h0, rfl⟩ | ⟨k1, k2⟩
          · refine fin _ _ [] hrun h2.st.p.ext (fun _ _ _ => rfl) (by simp) (by simp) fun ok' _ _ => .inl ⟨rfl, ?_, rfl⟩
            exact List.length_eq_zero_iff.1 (by rw [List.length_append]; exact h0)
          · exact grow v' w' [] [] (by subst hxs; exact ⟨rfl, rfl⟩) (by simp) (by simp) hrun k1 k2
        · have hsv : a.eval s = .slice (some ⟨blk, off, none⟩) xs.length cp := by rw [hv, hc]; rfl
          have hol := RepL.len (Rep.len erow.ty o1) _ _ _ hrA
          have hndb : b.Nodup := (List.nodup_append.1 hnd).1
          obtain ⟨v', w', hrun, hres⟩ := (run_appendX (ty := o.type) (c2 := cp2) (sv := a.eval s) (n := xs.length) (olds := olds) hu hrow hz hw0 hlenle hel hx0 hone hol).2 blk off cp cur e0 hsv hh hnc hfit hat
          rw [← hxv] at hrun
          rw [hb] at hndb
          obtain ⟨hnb, hndA⟩ := List.nodup_cons.1 hndb
          rcases hres with ⟨rfl, hroom, rfl⟩ | ⟨k1, k2⟩
          · have hfit2 : off + xs.length * erow.ty.width + es.length ≤ cur.size := by
              rw [hel, Nat.add_assoc, ← Nat.add_mul]
              exact Nat.le_trans (Nat.add_le_add_left (Nat.mul_le_mul_right _ hroom) _) hfit
            have hwr := setRow_wr (w := w) (c := es) hh hfit2
            have hblk : blk ∈ b ++ blks its := by rw [hb]; simp
            obtain ⟨kb, Rb, qb1, qb2, qb3⟩ := hown blk hblk
            have hnew := h2.st.p.own kb Rb qb2 blk qb3
            have hsm : ∀ z, z ≠ blk → Same w (w.setRow blk (cur.toList.take (off + xs.length * erow.ty.width) ++ es ++ cur.toList.drop (off + xs.length * erow.ty.width + es.length)).toArray) z := fun z hz => setRow_same hz
            obtain ⟨bsJ, hbsJ, hJ⟩ := appJ_rep ho' hrA hrB
            have hnot : ∀ z ∈ bA ++ bB, z ≠ blk := fun z hz e => by
              subst e
              rcases List.mem_append.1 hz with hz | hz
              · exact hnb hz
              · exact (List.nodup_append.1 hnd).2.2 z (by rw [hb]; simp) z (hsub.subset hz) rfl
            have hin : ∀ z ∈ bA ++ bB, z ∈ b ++ blks its := fun z hz => by
              rcases List.mem_append.1 hz with hz | hz
              · exact List.mem_append.2 (.inl (by rw [hb]; simp [hz]))
              · exact List.mem_append.2 (.inr (hsub.subset hz))
            have hsubJ : ∀ z ∈ bsJ, z ∈ bA ++ bB := fun z hz => by
              rcases hbsJ with rfl | rfl
              · exact hz
              · simp at hz
            have hndJ : bsJ.Nodup := by
              rcases hbsJ with rfl | rfl
              · exact List.nodup_append.2 ⟨hndA, hsub.nodup (List.nodup_append.1 hnd).2.1, fun z hz y hy e => (List.nodup_append.1 hnd).2.2 z (by rw [hb]; simp [hz]) y (hsub.subset hy) e⟩
              · simp
            refine fin _ _ (blk :: bsJ) hrun (h2.st.p.ext.setRow hnew _) (fun z hz hnz => hsm z fun e => hnz kb Rb qb1 qb2 (e ▸ qb3)) (List.nodup_cons.2 ⟨fun hm => hnot _ (hsubJ _ hm) rfl, hndJ⟩) (fun z hz => ?_) fun ok' k1 k2 => ?_
            · rcases List.mem_cons.1 hz with rfl | hz
              · exact .inr hblk
              · exact .inr (hin z (hsubJ z hz))
            · refine .inr ⟨blk, off, cp, _, e0, olds ++ es, bsJ, ?_, rfl, setRow_heap w blk cur _ e0 (0, 0) hh, ?_, ?_, ?_, ?_, ?_⟩
              · simp
              · simpa using hroom
              · simp; omega
              · simp only [List.size_toArray, List.length_append, List.length_take, List.length_drop, Array.length_toList]
                omega
              · refine At.append.2 ⟨?_, by rw [hol]; exact hwr.2⟩
                exact Wr.other hwr hat (by rw [hol]; omega)
              · have := hJ (fun z => (ok' z ∧ z ≠ blk) ∨ ¬ z < w.heap.size) (fun z hz => by
                  by_cases hl : z < w.heap.size
                  · exact .inl ⟨k1 z hz hl, fun e => hoknb z hz (e ▸ hblk)⟩
                  · exact .inr hl) (fun z hz hz' => .inl ⟨k2 z (hin z hz) (fun hm => by
                  rcases List.mem_cons.1 hm with rfl | hm
                  · exact hnot _ hz rfl
                  · exact hz' hm), hnot z hz⟩)
                exact RepL.imp _ _ _ (fun x c b _ hb hr => Rep.frame (fun z hz hzl => ⟨(hz.resolve_right (by simpa using hzl)).1, hsm z (hz.resolve_right (by simpa using hzl)).2⟩) _ _ _ _ _ (fun z hz => hsm z (hnot z (hsubJ z (hb z hz)))) hr) this
          · exact grow v' w' olds bA hrA (fun z hz => by rw [hb]; simp [hz]) hndA hrun k1 k2
      · trivial
    · trivial
  · trivial
end
end Go.Rex

/-! What any operation does to the machine. -/
set_option linter.unusedSimpArgs false
set_option linter.unusedVariables false
namespace Go.Rex

structure CfgOK (P : Program) (G : Cfg) : Prop where
  rows : ∀ t row, lk G.ti t = some row → RowOK P t row
  fns : ∀ f s, (f, s) ∈ G.T → SummOK P f s
  mixed : P.follows .mixedOrders = true

def singles (vs : List Value) : List (List Value) := vs.map fun v => [v]
theorem singles_flatten : ∀ (vs : List Value), (singles vs).flatten = vs
  | [] => rfl
  | v :: vs => by
    have := singles_flatten vs
    simp only [singles, List.map_cons, List.flatten_cons] at this ⊢
    rw [this]; rfl
theorem AOKs_false {w : World} {ok : Nat → Prop} {O : Nat → Option Root} {cs : Nat → List Value} : ∀ {ps : List PM} {l : List Sl} {vs : List Value}, bnShape false ps = true → SOKs w ok O cs l vs → ps.length = l.length → AOKs w ok O cs ps l (singles vs)
  | [], [], [], _, _, _ => trivial
  | [], [], _ :: _, _, h, _ => h.elim
  | [], _ :: _, _, _, _, h => by simp at h
  | _ :: _, [], _, _, _, h => by simp at h
  | _ :: _, _ :: _, [], _, h, _ => h.elim
  | m :: ps, s :: l, v :: vs, hb, h, hl => by
    have hl' : ps.length = l.length := by simpa using hl
    cases m with
    | bn t o => simp [bnShape] at hb
    | rd t => exact ⟨⟨v, h.1, rfl⟩, AOKs_false hb h.2 hl'⟩
    | ln t o => exact ⟨⟨v, h.1, rfl⟩, AOKs_false hb h.2 hl'⟩
    | mv t o => exact ⟨⟨v, h.1, rfl⟩, AOKs_false hb h.2 hl'⟩
theorem AOKs_true {w : World} {ok : Nat → Prop} {O : Nat → Option Root} {cs : Nat → List Value} {s : Sl} {g : FuncId} {cap : Array Value} (hs : SlotOK w ok O cs s (.func (.func g) #[] cap)) :
    ∀ {ps : List PM} {l : List Sl} {vs : List Value}, bnShape true ps = true → SOKs w ok O cs l vs → ps.length = (l ++ [s]).length → AOKs w ok O cs ps (l ++ [s]) (singles vs ++ [cap.toList])
  | [], l, vs, _, _, h => by simp at h
  | m :: ps, [], vs, hb, h, hl => by
    have hl' : ps = [] := by simpa using hl
    subst hl'
    cases vs with
    | cons _ _ => exact h.elim
    | nil =>
    cases m with
    | bn t o => exact ⟨⟨g, cap, hs, rfl⟩, trivial⟩
    | rd t => simp [bnShape, nott] at hb
    | ln t o => simp [bnShape, nott] at hb
    | mv t o => simp [bnShape, nott] at hb
  | m :: ps, s' :: l, [], hb, h, hl => h.elim
  | m :: ps, s' :: l, v :: vs, hb, h, hl => by
    have hl' : ps.length = (l ++ [s]).length := by simpa using hl
    cases m with
    | bn t o =>
      simp only [bnShape, Bool.true_and, lenL_eq] at hb
      have := nbeq.1 hb
      rw [hl'] at this; simp at this
    | rd t => exact ⟨⟨v, h.1, rfl⟩, AOKs_true hs hb h.2 hl'⟩
    | ln t o => exact ⟨⟨v, h.1, rfl⟩, AOKs_true hs hb h.2 hl'⟩
    | mv t o => exact ⟨⟨v, h.1, rfl⟩, AOKs_true hs hb h.2 hl'⟩

theorem mvArgs_len : ∀ (ps : List PM) (l : List Sl) (rs : Roots) (g : List Foc × Roots), mvArgs ps l rs = some g → ps.length = l.length
  | [], [], rs, g, h => rfl
  | [], _ :: _, rs, g, h => by simp [mvArgs] at h
  | _ :: _, [], rs, g, h => by simp [mvArgs] at h
  | m :: ps, s :: l, rs, g, h => by
    have other : (mvArgs ps l rs).bind (fun h => some (junk :: h.1, h.2)) = some g → (m :: ps).length = (s :: l).length := fun hq => by
      simp only [Option.bind_eq_some_iff] at hq
      obtain ⟨g', hq, _⟩ := hq
      simp [mvArgs_len ps l rs g' hq]
    cases m with
    | mv t o =>
      simp only [mvArgs, Option.bind_eq_some_iff] at h
      obtain ⟨f, hu, g', h, _⟩ := h
      simp [mvArgs_len ps l _ g' h]
    | rd t => exact other h
    | ln t o => exact other h
    | bn t o => exact other h

section
variable {P : Program} {Γ : Ctx} {e : Env} {a : Act} {w : World} {o : Oper}

theorem callRes_len {s : Summ} {as : List Sl} {F : Nat} (h : s.ps.length = as.length → (callRes s as e.ow F).good P Γ o e a w) : (callRes s as e.ow F).good P Γ o e a w := by
  cases hm : mvArgs s.ps as e.ow with
  | none => unfold callRes; rw [hm]; trivial
  | some g => exact h (mvArgs_len _ _ _ _ hm)

theorem trySumms_good (b : Bool) (f : FuncId) (as : List Sl) (F : Nat) (T : List (Nat × Summ)) (hT : ∀ g s, (g, s) ∈ T → SummOK P g s)
    (hs : ∀ s, SummOK P f s → bnShape b s.ps = true → (callRes s as e.ow F).good P Γ o e a w) : (trySumms b f as e.ow F T).good P Γ o e a w := by
  induction T with
  | nil => trivial
  | cons q T ih =>
    obtain ⟨g, s⟩ := q
    have ih := ih fun g s h => hT g s (by simp [h])
    unfold trySumms
    cases hc : (Nat.beq g f && bnShape b s.ps)
    · simpa using ih
    · simp only [Bool.and_eq_true] at hc
      have := nbeq.1 hc.1
      subst this
      have h1 := hs s (hT g s (by simp)) hc.2
      simp only [cond_true]
      split
      · exact ih
      · exact h1

theorem SOKs.caps {O : Nat → Option Root} {ok : Nat → Prop} {cs : Nat → List Value} : ∀ (k : List Nat) (cap : List Value), cap.length = k.length → (∀ i (h : i < k.length), ∀ R, O k[i] = some R → cap[i]? = some (pack R.t (cs k[i]))) → SOKs w ok O cs (capSlots k) cap
  | [], [], _, _ => trivial
  | [], _ :: _, h, _ => by simp at h
  | _ :: _, [], h, _ => by simp at h
  | r :: k, v :: cap, hl, h => by
    refine ⟨fun R hR => ⟨Nat.zero_le _, fun _ => ⟨_, rfl, ?_⟩⟩, SOKs.caps k cap (by simpa using hl) fun i hi R hR => ?_⟩
    · have := h 0 (by simp) R (by simpa using hR)
      simpa using this
    · have := h (i + 1) (by simp; omega) R (by simpa using hR)
      simpa using this

theorem nx_call {G : Cfg} (hG : CfgOK P G) (h : St Γ e.ae a w) (hd : dOK e o.dst = true) {F : Nat} (hF : Fresh e F) (f : Operand) (args : Array Operand) (ats : Array TypeId) (ho : o.op = .call { callee := .value f, args := args, argTypes := ats }) :
    (match e.opd f with
      | .cl g k => trySumms false g (appL (mapL e.opd args.toList) (capSlots k)) e.ow F G.T
      | .rf r v p ix => OpRes.ofOpt (ownSlice (.rf r v p ix) e.ow) fun q => match q.2.t with
        | .fn g _ => bif nott (isHole q.2.o) then trySumms true g (appL (mapL e.opd args.toList) [.rf r v p ix]) e.ow F G.T else .fail
        | _ => .fail
      | _ => .fail : OpRes).good P Γ o e a w := by
  have run : ∀ (g : FuncId) (cap : Array Value), a.eval f = .func (.func g) #[] cap → (execOp a.eval o).run P w = (callFunc g (args.map a.eval ++ cap)).run P w := fun g cap hv => by
    simp [execOp, ho, resolve, Deferred.ofValue, hv, invoke]
  split
  · rename_i g k hk
    refine trySumms_good false g _ F G.T hG.fns fun s hs hb => callRes_len fun hlen => ?_
    rw [appL_eq] at hlen ⊢
    obtain ⟨cs0, bs0, hx0⟩ := h.x
    have hv0 := opd_ok hx0 f
    rw [hk] at hv0
    obtain ⟨cap, hv, _⟩ := hv0
    refine nx_callRes h hd hF hs (vss := singles (args.toList.map a.eval ++ cap)) (fun O C cs bs rs items hh => AOKs_false hb (SOKs.append (SOKs.opds hh.st _) ?_) hlen) ?_
    · have hv2 := opd_okX hh.st f
      rw [hk] at hv2
      obtain ⟨cap', hv', hl, hc⟩ := hv2
      rw [hv] at hv'
      simp only [Value.func.injEq, true_and] at hv'
      have : cap = cap' := by have := congrArg Array.toList hv'; simpa using this
      subst this
      exact SOKs.caps k cap hl hc
    · rw [singles_flatten, run g _ hv]; congr 2; simp
  · rename_i r v p ix hk
    refine good_ofOpt fun q hq => ?_
    split
    · rename_i g c hqt
      refine good_bif fun hoh => ?_
      refine trySumms_good true g _ F G.T hG.fns fun s hs hb => callRes_len fun hlen => ?_
      rw [appL_eq] at hlen ⊢
      obtain ⟨cs0, bs0, hx0⟩ := h.x
      have hv0 := opd_ok hx0 f
      rw [hk] at hv0
      obtain ⟨h1, h2, h3, h4, L, hop, hv⟩ := ownSlice_sound (C := fun _ => false) hx0.p (fun r R hR => ⟨rfl, hR⟩) hv0 hq
      obtain ⟨b0, hLr⟩ := hop.rep
      have ht := hop.t
      rw [← h4] at hLr ht
      obtain ⟨q1, qt, qo, qx⟩ := q
      dsimp only at hqt hLr ht hoh
      subst hqt
      have hoh := nott_eq hoh
      have hcap : ∃ cap : Array Value, L.cs = [.func (.func g) #[] cap] := by
        cases qo with
        | hole => simp [isHole] at hoh
        | _ => obtain ⟨cap, h5, _⟩ := hLr; exact ⟨cap, h5⟩
      obtain ⟨cap, hLc⟩ := hcap
      have hv : a.eval f = .func (.func g) #[] cap := by rw [hv, ht, hLc]; simp [pack, Ty.isAgg]
      refine nx_callRes h hd hF hs (vss := singles (args.toList.map a.eval) ++ [cap.toList]) (fun O C cs bs rs items hh => AOKs_true (g := g) (cap := cap) ?_ hb (SOKs.opds hh.st _) hlen) ?_
      · have hv2 := opd_okX hh.st f
        rw [hk, hv] at hv2
        exact hv2
      · rw [List.flatten_append, singles_flatten, run g _ hv]; congr 2; simp
    · trivial
  · trivial

theorem opRes_good {G : Cfg} (hG : CfgOK P G) (h : St Γ e.ae a w) (hd : dOK e o.dst = true) {F : Nat} (hF : Fresh e F) : (opRes G e.opd o.op e.ow F).good P Γ o e a w := by
  have sl : ∀ t row, lk G.ti t = some row → ∀ el, row.d = .slice el → P.underlying t = some (.slice el) := fun t row ht el hs => by
    obtain ⟨d, h1, _, h2⟩ := (hG.rows t row ht).desc
    rw [hs] at h2; rw [h1, h2]
  have ar : ∀ t row, lk G.ti t = some row → ∀ n el, row.d = .array n el → P.underlying t = some (.array n el) := fun t row ht n el hs => by
    obtain ⟨d, h1, _, h2⟩ := (hG.rows t row ht).desc
    rw [hs] at h2; rw [h1, h2]
  cases ho : o.op <;> unfold opRes <;> (try dsimp only) <;> (try trivial)
  case move x => exact fun _ => nx_move h hd x (.inl ho)
  case assign x => exact fun _ => nx_move h hd x (.inr ho)
  case pick c x y => exact nx_pick h hd c x y ho
  case alloc t => exact good_ofOpt fun row hr => nx_alloc (hG.rows _ _ hr) h hd hF ho
  case box t x => exact good_ofOpt fun row hr => nx_box (hG.rows _ _ hr) h hd hF x ho
  case build t ps => exact good_ofOpt fun row hr => nx_build (hG.rows _ _ hr) h hd hF ps ho
  case buildSlice t n ps =>
    refine good_ofOpt fun row hr => ?_
    split
    · rename_i el hs
      exact good_ofOpt fun erow her => nx_buildSlice (sl t row hr el hs) (hG.rows _ _ her) h hd hF n ps ho
    · trivial
  case load t x => exact good_ofOpt fun row hr => nx_load (hG.rows _ _ hr) h hd x ho
  case store t x v => exact good_ofOpt fun row hr => nx_store (hG.rows _ _ hr) h hd x v ho
  case nilCheck x => exact nx_nilCheck h hd x ho
  case binOp b t x y t' =>
    cases hb : isBoolSl (e.opd x)
    · exact nx_bin h hd b t t' x y ho
    · exact good_ofOpt fun row hr => nx_boolEq b t t' (hG.rows _ _ hr) h hd x y ho
  case unOp u t x => exact nx_un h hd u t x ho
  case convert c d x => exact good_ofOpt fun crow hc => good_ofOpt fun row hr => nx_conv (hG.rows _ _ hc) (hG.rows _ _ hr) h hd x ho
  case makeFunc fn first caps =>
    cases fn <;> (try dsimp only) <;> (try trivial)
    · rename_i f
      refine good_bif fun hf => good_ofOpt fun k hk _ => ?_
      have hf0 : first.toList = [] := by
        have := nbeq.1 hf
        rw [lenL_eq] at this
        exact List.length_eq_zero_iff.1 this
      refine Nx.pure (v := .func (.func f) #[] (caps.map a.eval)) h hd (by
        have : first = #[] := by simpa using hf0
        simp [execOp, ho, Instr.makeFunc, this]) fun cs bs hx => ?_
      have : ∀ (l : List Operand) (k : List Nat), capsOf (mapL e.opd l) = some k → l.length = k.length ∧ ∀ i (h : i < k.length), ∀ R, lk e.ow k[i] = some R → (l.map a.eval)[i]? = some (pack R.t (cs k[i])) := by
        intro l
        induction l with
        | nil => intro k hk; simp only [mapL, capsOf, Option.some.injEq] at hk; subst hk; exact ⟨rfl, fun i hi => by simp at hi⟩
        | cons x l ih =>
          intro k hk
          have hx := opd_ok hx x
          simp only [mapL] at hk
          unfold capsOf at hk
          split at hk
          · rename_i he; simp at he
          · rename_i r v l' he
            simp only [List.cons.injEq] at he
            obtain ⟨he1, he2⟩ := he
            simp only [Option.bind_eq_some_iff, Option.some.injEq] at hk
            obtain ⟨k', hk', rfl⟩ := hk
            rw [← he2] at hk'
            obtain ⟨g1, g2⟩ := ih k' hk'
            refine ⟨by simp [g1], fun i hi R hR => ?_⟩
            cases i with
            | zero =>
              rw [he1] at hx
              obtain ⟨_, hx⟩ := hx R hR
              obtain ⟨L, hl, hv⟩ := hx (.inl rfl)
              simp only [locate, Option.some.injEq] at hl
              subst hl
              simp [hv]
            | succ i =>
              have := g2 i (by simpa using hi) R (by simpa using hR)
              simpa using this
          · simp at hk
      obtain ⟨g1, g2⟩ := this _ _ hk
      exact ⟨caps.toList.map a.eval, by simp [← Array.toList_map], by simpa using g1, g2⟩
  case makeSlice t n c =>
    refine good_ofOpt fun row hr => ?_
    split
    · rename_i el hs
      exact good_ofOpt fun erow her => nx_makeSlice (sl t row hr el hs) (hG.rows _ _ her) h hd hF n c ho
    · trivial
  case slice t x lo hi mx =>
    refine good_bif fun hm => good_ofOpt fun row hr => ?_
    have : mx = none := by cases mx <;> simp_all
    subst this
    split
    · rename_i el hs
      exact good_ofOpt fun erow her => nx_slice (sl t row hr el hs) (hG.rows _ _ her) h hd hF x lo hi ho
    · exact good_bif fun hk => nx_cut (hG.rows _ _ hr) (Ty.eqb_eq hk) h hd x lo hi ho
    · trivial
  case fieldAddr t x j =>
    refine good_ofOpt fun row hr => ?_
    split
    · rename_i offs hs
      exact good_bif fun hj => nx_fieldAddr (hG.rows _ _ hr) hs h hd x j hj ho
    · trivial
  case field t x j =>
    refine good_ofOpt fun row hr => ?_
    split
    · rename_i offs hs
      exact good_bif fun hj => nx_field (hG.rows _ _ hr) hs h hd x j hj ho
    · trivial
  case indexAddr t x i =>
    refine good_ofOpt fun row hr => ?_
    split
    · rename_i el hs
      exact good_ofOpt fun erow her => nx_indexAddr (sl t row hr el hs) (hG.rows _ _ her) h hd x i ho
    · rename_i n el hs
      exact good_ofOpt fun erow her => nx_indexArr (ar t row hr n el hs) (hG.rows _ _ her) h hd x i ho
    · trivial
  case index t x i => exact good_ofOpt fun row hr => nx_index (hG.rows _ _ hr) h hd x i ho
  case extract x j => exact nx_extract h hd x j ho
  case call c =>
    obtain ⟨callee, args, ats⟩ := c
    cases callee with
    | value f => exact nx_call hG h hd hF f args ats ho
    | invoke r m => trivial
    | builtin b =>
      have len1 : ∀ s, mapL e.opd args.toList = [s] → ∃ x, args = #[x] ∧ s = e.opd x := fun s hs => by
        rw [mapL_eq] at hs
        obtain ⟨x, hx, rfl⟩ := List.map_eq_singleton_iff.1 hs
        exact ⟨x, by rw [← hx], rfl⟩
      have ats1 : ∀ t l, ats.toList = t :: l → ats[0]? = some t := fun t l ht => by
        rw [← Array.getElem?_toList, ht]; rfl
      show (builtinRes G b ats.toList (mapL e.opd args.toList) e.ow F).good P Γ o e a w
      unfold builtinRes
      split
      · rename_i s hs
        obtain ⟨x, rfl, rfl⟩ := len1 _ hs
        split
        · rename_i t l ht
          exact good_ofOpt fun row hr => nx_len (hG.rows _ _ hr) h hd x ats (ats1 _ _ ht) ho
        · trivial
      · rename_i hs
        obtain ⟨x, rfl, hx⟩ := len1 _ hs
        split
        · rename_i t l ht
          exact good_ofOpt fun row hr => good_bif fun hk _ => nx_cap (hG.rows _ _ hr) hk h hd x hx.symm ats (ats1 _ _ ht) ho
        · trivial
      · rename_i s x hs
        have : ∃ s' x', args = #[s', x'] ∧ s = e.opd s' ∧ x = e.opd x' := by
          rw [mapL_eq] at hs
          match hl : args.toList with
          | [] => rw [hl] at hs; simp at hs
          | [p] => rw [hl] at hs; simp at hs
          | [p, q] => rw [hl] at hs; simp at hs; exact ⟨p, q, by rw [← hl], hs.1.symm, hs.2.symm⟩
          | _ :: _ :: _ :: _ => rw [hl] at hs; simp at hs
        obtain ⟨s', x', rfl, rfl, rfl⟩ := this
        split
        · rename_i t u ht
          refine good_bif fun hut => good_ofOpt fun row hr => ?_
          obtain rfl := nbeq.1 hut
          split
          · rename_i el hds
            exact good_ofOpt fun erow her => nx_append (sl _ row hr el hds) (hG.rows _ _ her) h hd hF s' x' ats (by apply Array.toList_inj.1; rw [ht]) ho
          · trivial
        · trivial
      · rename_i m l hs
        exact good_ofOpt fun r hr _ => nx_max true h hd m l r hr args ats hs ho
      · rename_i m l hs
        exact good_ofOpt fun r hr _ => nx_max false h hd m l r hr args ats hs ho
      · trivial

end
end Go.Rex

/-! What an operation comes to hangs on its operands alone, and on the roots that they name. -/
set_option linter.unusedSimpArgs false
set_option linter.unusedVariables false
namespace Go.Rex

def Agr (J : List Nat) (rs rs' : Roots) : Prop := ∀ j ∈ J, lk rs j = lk rs' j
/-- A root's way: as it was, gone, or of a later version. -/
def Way (x y : Option Root) : Prop := match x with
  | none => y = none
  | some R => y = some R ∨ y = none ∨ ∃ R', y = some R' ∧ R.v < R'.v
theorem Way.refl (x : Option Root) : Way x x := by cases x <;> simp [Way]
theorem Way.trans {x y z : Option Root} (h : Way x y) (h' : Way y z) : Way x z := by
  cases x with
  | none => simp only [Way] at h; subst h; exact h'
  | some R =>
    simp only [Way] at h ⊢
    rcases h with rfl | rfl | ⟨R', rfl, hv⟩
    · exact h'
    · simp only [Way] at h'; exact .inr (.inl h')
    · simp only [Way] at h'
      rcases h' with rfl | rfl | ⟨R2, rfl, hv'⟩
      · exact .inr (.inr ⟨R', rfl, hv⟩)
      · exact .inr (.inl rfl)
      · exact .inr (.inr ⟨R2, rfl, by omega⟩)

/-- Two tables go alike: on J they come to the same, beside J they stay. -/
structure Mv (J : List Nat) (rs rs1 rs' rs1' : Roots) : Prop where
  on : ∀ j ∈ J, lk rs1 j = lk rs1' j
  off : ∀ j, j ∉ J → lk rs1 j = lk rs j
  off' : ∀ j, j ∉ J → lk rs1' j = lk rs' j
  bm : ∀ j, Way (lk rs j) (lk rs1 j)
structure Fn (F : Nat) (J : List Nat) (rs rs1 rs' rs1' : Roots) : Prop where
  on : ∀ j ∈ J, lk rs1 j = lk rs1' j
  off : ∀ j, j ∉ J → lk rs1 j = lk rs j
  off' : ∀ j, j ∉ J → lk rs1' j = lk rs' j
  bm : ∀ j, j ≠ F → Way (lk rs j) (lk rs1 j)

section
variable {F : Nat} {J : List Nat} {rs rs' rs1 rs1' rs2 rs2' : Roots}
theorem Mv.refl (h : Agr J rs rs') : Mv J rs rs rs' rs' := ⟨h, fun _ _ => rfl, fun _ _ => rfl, fun _ => Way.refl _⟩
theorem Mv.trans (h : Mv J rs rs1 rs' rs1') (h' : Mv J rs1 rs2 rs1' rs2') : Mv J rs rs2 rs' rs2' :=
  ⟨h'.on, fun j hj => (h'.off j hj).trans (h.off j hj), fun j hj => (h'.off' j hj).trans (h.off' j hj), fun j => (h.bm j).trans (h'.bm j)⟩
theorem Mv.fn (h : Mv J rs rs1 rs' rs1') : Fn F J rs rs1 rs' rs1' := ⟨h.on, h.off, h.off', fun j _ => h.bm j⟩
theorem Mv.agr (h : Mv J rs rs1 rs' rs1') : Agr J rs1 rs1' := h.on
theorem Mv.none (h : Mv J rs rs1 rs' rs1') {j : Nat} (hj : lk rs j = none) : lk rs1 j = none := by have := h.bm j; rw [hj] at this; exact this
theorem Mv.none' (h : Mv J rs rs1 rs' rs1') {j : Nat} (hj : lk rs j = Option.none) (hj' : lk rs' j = Option.none) : lk rs1' j = Option.none := by
  by_cases hm : j ∈ J
  · rw [← h.on j hm]; exact h.none hj
  · rw [h.off' j hm]; exact hj'
theorem Mv.rapp (h : Mv J rs rs1 rs' rs1') (hF : F ∈ J) (hn : lk rs F = .none) (hn' : lk rs' F = .none) (R : Root) : Fn F J rs (rapp rs1 F R) rs' (rapp rs1' F R) := by
  have e1 := h.none hn
  have e2 := h.none' hn hn'
  refine ⟨fun j hj => ?_, fun j hj => ?_, fun j hj => ?_, fun j hj => ?_⟩
  · rw [lk_rapp _ _ _ _ e1, lk_rapp _ _ _ _ e2]
    by_cases hjF : j = F
    · rw [if_pos hjF, if_pos hjF]
    · rw [if_neg hjF, if_neg hjF]; exact h.on j hj
  · rw [lk_rapp _ _ _ _ e1, if_neg (fun e : j = F => hj (e ▸ hF))]; exact h.off j hj
  · rw [lk_rapp _ _ _ _ e2, if_neg (fun e : j = F => hj (e ▸ hF))]; exact h.off' j hj
  · rw [lk_rapp _ _ _ _ e1, if_neg hj]; exact h.bm j
theorem Mv.stt (h : Agr J rs rs') {r : Nat} (hr : r ∈ J) {R R' : Root} (hR : lk rs r = some R) (hv : R.v < R'.v) : Mv J rs (stt rs r R') rs' (stt rs' r R') := by
  refine ⟨fun j hj => ?_, fun j hj => ?_, fun j hj => ?_, fun j => ?_⟩
  · rw [lk_stt, lk_stt]; by_cases e : j = r <;> simp [e, h _ hj, h _ hr]
  · rw [lk_stt, if_neg (fun e : j = r => hj (e ▸ hr))]
  · rw [lk_stt, if_neg (fun e : j = r => hj (e ▸ hr))]
  · rw [lk_stt]
    by_cases e : j = r
    · subst e; rw [if_pos rfl, hR]; exact .inr (.inr ⟨R', rfl, hv⟩)
    · rw [if_neg e]; exact Way.refl _
theorem Mv.rmv (h : Agr J rs rs') {r : Nat} (hr : r ∈ J) {R : Root} (hR : lk rs r = some R) : Mv J rs (rmv rs r) rs' (rmv rs' r) := by
  refine ⟨fun j hj => ?_, fun j hj => ?_, fun j hj => ?_, fun j => ?_⟩
  · rw [lk_rmv, lk_rmv]; by_cases e : j = r <;> simp [e, h _ hj]
  · rw [lk_rmv, if_neg (fun e : j = r => hj (e ▸ hr))]
  · rw [lk_rmv, if_neg (fun e : j = r => hj (e ▸ hr))]
  · rw [lk_rmv]
    by_cases e : j = r
    · subst e; rw [if_pos rfl, hR]; exact .inr (.inl rfl)
    · rw [if_neg e]; exact Way.refl _

inductive Sim (F : Nat) (J : List Nat) (rs rs' : Roots) : OpRes → OpRes → Prop
  | fail : Sim F J rs rs' .fail .fail
  | ok (c : Bool) (s : Sl) (rs1 rs1' : Roots) (h : Fn F J rs rs1 rs' rs1') : Sim F J rs rs' (.ok c s rs1) (.ok c s rs1')
  | call (σ : Type) (x : Option σ) (f f' : σ → Option (Sl × Roots)) (h : ∀ y, (f y = none ∧ f' y = none) ∨ ∃ s rs1 rs1', f y = some (s, rs1) ∧ f' y = some (s, rs1') ∧ Fn F J rs rs1 rs' rs1') : Sim F J rs rs' (.call σ x f) (.call σ x f')
def OSim {β : Type} (J : List Nat) (rs rs' : Roots) (x y : Option (β × Roots)) : Prop := (x = none ∧ y = none) ∨ ∃ b rs1 rs1', x = some (b, rs1) ∧ y = some (b, rs1') ∧ Mv J rs rs1 rs' rs1'
theorem OSim.one {β : Type} {J : List Nat} {rs rs' : Roots} {x y : Option (β × Roots)} (h1 : ∀ b rs1, x = some (b, rs1) → ∃ rs1', y = some (b, rs1') ∧ Mv J rs rs1 rs' rs1') (h2 : x = none → y = none) : OSim J rs rs' x y := by
  cases x with
  | none => exact .inl ⟨rfl, h2 rfl⟩
  | some q => obtain ⟨b, rs1⟩ := q; obtain ⟨rs1', g1, g2⟩ := h1 b rs1 rfl; exact .inr ⟨b, rs1, rs1', rfl, g1, g2⟩

theorem Sim.bind {β : Type} {x y : Option (β × Roots)} {f f' : β × Roots → OpRes} (h : OSim J rs rs' x y) (hf : ∀ b rs1 rs1', Mv J rs rs1 rs' rs1' → Sim F J rs rs' (f (b, rs1)) (f' (b, rs1'))) : Sim F J rs rs' (.ofOpt x f) (.ofOpt y f') := by
  rcases h with ⟨rfl, rfl⟩ | ⟨b, rs1, rs1', rfl, rfl, h⟩
  · exact .fail
  · exact hf b rs1 rs1' h
theorem Sim.same {β : Type} {x : Option β} {f f' : β → OpRes} (hf : ∀ b, x = some b → Sim F J rs rs' (f b) (f' b)) : Sim F J rs rs' (.ofOpt x f) (.ofOpt x f') := by
  cases x with
  | none => exact .fail
  | some b => exact hf b rfl
theorem Sim.bif {c : Bool} {x y : OpRes} (h : c = true → Sim F J rs rs' x y) : Sim F J rs rs' (bif c then x else .fail) (bif c then y else .fail) := by
  cases c
  · exact .fail
  · exact h rfl
theorem OSim.bind {β γ : Type} {x y : Option (β × Roots)} {f f' : β × Roots → Option (γ × Roots)} (h : OSim J rs rs' x y) (hf : ∀ b rs1 rs1', Mv J rs rs1 rs' rs1' → OSim J rs rs' (f (b, rs1)) (f' (b, rs1'))) : OSim J rs rs' (x.bind f) (y.bind f') := by
  rcases h with ⟨rfl, rfl⟩ | ⟨b, rs1, rs1', rfl, rfl, h⟩
  · exact .inl ⟨rfl, rfl⟩
  · exact hf b rs1 rs1' h
theorem OSim.same {β γ : Type} {x : Option β} {f f' : β → Option (γ × Roots)} (hf : ∀ b, x = some b → OSim J rs rs' (f b) (f' b)) : OSim J rs rs' (x.bind f) (x.bind f') := by
  cases x with
  | none => exact .inl ⟨rfl, rfl⟩
  | some b => exact hf b rfl
theorem OSim.some {β : Type} (h : Mv J rs rs1 rs' rs1') (b : β) : OSim J rs rs' (Option.some (b, rs1)) (Option.some (b, rs1')) := .inr ⟨b, rs1, rs1', rfl, rfl, h⟩
theorem OSim.from {β : Type} {x y : Option (β × Roots)} (h0 : Mv J rs rs1 rs' rs1') (h : OSim J rs1 rs1' x y) : OSim J rs rs' x y := by
  rcases h with h | ⟨b, r2, r2', h1, h2, h3⟩
  · exact .inl h
  · exact .inr ⟨b, r2, r2', h1, h2, h0.trans h3⟩
theorem Sim.rd (h : Mv J rs rs1 rs' rs1') (c : Bool) (s : Sl) : Sim F J rs rs' (.ok c s rs1) (.ok c s rs1') := .ok c s _ _ h.fn
theorem Sim.mk (h : Mv J rs rs1 rs' rs1') (hF : F ∈ J) (hn : lk rs F = none) (hn' : lk rs' F = none) (c : Bool) (f : Foc) : Sim F J rs rs' (mkRoot c f rs1 F) (mkRoot c f rs1' F) := .ok c _ _ _ (h.rapp hF hn hn' _)

/-! ### Operands -/
theorem useUp_loc {want : Ty} {s : Sl} (hs : ∀ r ∈ s.refs, r ∈ J) (ha : Agr J rs rs') : OSim J rs rs' (useUp want s rs) (useUp want s rs') := by
  cases s with
  | dt t x => exact OSim.some (Mv.refl ha) _
  | nilS => cases want <;> first | exact OSim.some (Mv.refl ha) _ | exact .inl ⟨rfl, rfl⟩
  | rf r v p ix =>
    have hr : r ∈ J := hs r (by simp [Sl.refs])
    simp only [useUp]
    rw [← ha r hr]
    refine OSim.same fun R hR => ?_
    cases rfOK v R p
    · exact .inl ⟨rfl, rfl⟩
    simp only [cond_true]
    cases (getAt p ix R.foc).o.pure
    · simp only [cond_false]
      cases p with
      | nil => exact OSim.some (Mv.rmv ha hr hR) _
      | cons a p => exact OSim.same fun y hy => OSim.some (Mv.stt ha hr hR (Nat.lt_succ_self _)) _
    · exact OSim.some (Mv.refl ha) _
  | _ => exact .inl ⟨rfl, rfl⟩
theorem lookAt_loc {want : Ty} {s : Sl} (hs : ∀ r ∈ s.refs, r ∈ J) (ha : Agr J rs rs') : lookAt want s rs = lookAt want s rs' := by
  cases s with
  | rf r v p ix => simp only [lookAt]; rw [ha r (hs r (by simp [Sl.refs]))]
  | nilS => cases want <;> rfl
  | _ => rfl
theorem placeOf_loc {s : Sl} (hs : ∀ r ∈ s.refs, r ∈ J) (ha : Agr J rs rs') : placeOf s rs = placeOf s rs' := by
  cases s with
  | rf r v p ix => simp only [placeOf]; rw [ha r (hs r (by simp [Sl.refs]))]
  | ad r v p ix => simp only [placeOf]; rw [ha r (hs r (by simp [Sl.refs]))]
  | _ => rfl
theorem placeOf_root {s : Sl} {q : Pl} (h : placeOf s rs = some q) : q.r ∈ s.refs ∧ lk rs q.r = some q.R := by
  cases s with
  | rf r v p ix =>
    simp only [placeOf, Option.bind_eq_some_iff] at h
    obtain ⟨R, hR, h⟩ := h
    cases hv : rfOK v R p <;> rw [hv] at h
    · simp at h
    simp only [cond_true] at h
    split at h
    · simp only [Option.some.injEq] at h; subst h; exact ⟨by simp [Sl.refs], hR⟩
    · simp at h
  | ad r v p ix =>
    simp only [placeOf, Option.bind_eq_some_iff] at h
    obtain ⟨R, hR, h⟩ := h
    cases hv : adOK v R p <;> rw [hv] at h
    · simp at h
    simp only [cond_true, Option.some.injEq] at h; subst h; exact ⟨by simp [Sl.refs], hR⟩
  | _ => simp [placeOf] at h
theorem ownSlice_loc {s : Sl} (hs : ∀ r ∈ s.refs, r ∈ J) (ha : Agr J rs rs') : ownSlice s rs = ownSlice s rs' := by
  cases s with
  | rf r v p ix => simp only [ownSlice]; rw [ha r (hs r (by simp [Sl.refs]))]
  | _ => rfl
theorem ownSlice_root {s : Sl} {q : Pl × Foc} (h : ownSlice s rs = some q) : q.1.r ∈ s.refs ∧ lk rs q.1.r = some q.1.R := by
  cases s with
  | rf r v p ix =>
    simp only [ownSlice, Option.bind_eq_some_iff] at h
    obtain ⟨R, hR, h⟩ := h
    cases hv : rfOK v R p <;> rw [hv] at h
    · simp at h
    simp only [cond_true, Option.some.injEq] at h; subst h; exact ⟨by simp [Sl.refs], hR⟩
  | _ => simp [ownSlice] at h

def AllIn (J : List Nat) (l : List Sl) : Prop := ∀ s ∈ l, ∀ r ∈ s.refs, r ∈ J
theorem AllIn.cons {s : Sl} {l : List Sl} (h : AllIn J (s :: l)) : (∀ r ∈ s.refs, r ∈ J) ∧ AllIn J l := ⟨h s (by simp), fun t ht => h t (by simp [ht])⟩

theorem useUps_loc {want : Ty} : ∀ (l : List Sl) (rs rs' : Roots), AllIn J l → Agr J rs rs' → OSim J rs rs' (useUps want l rs) (useUps want l rs')
  | [], rs, rs', _, ha => OSim.some (Mv.refl ha) _
  | s :: l, rs, rs', h, ha => by
    simp only [useUps]
    refine OSim.bind (useUp_loc h.cons.1 ha) fun b rs1 rs1' hm => OSim.from hm (OSim.bind (useUps_loc l rs1 rs1' h.cons.2 hm.agr) fun b2 rs2 rs2' hm2 => OSim.some hm2 _)
theorem fillUp_loc : ∀ (l : List (Nat × Sl)) (f : Foc) (rs rs' : Roots), AllIn J (l.map (·.2)) → Agr J rs rs' → OSim J rs rs' (fillUp l f rs) (fillUp l f rs')
  | [], f, rs, rs', _, ha => OSim.some (Mv.refl ha) _
  | (j, s) :: l, f, rs, rs', h, ha => by
    simp only [fillUp]
    have h' : AllIn J (s :: l.map (·.2)) := h
    refine OSim.bind (useUp_loc h'.cons.1 ha) fun b rs1 rs1' hm => OSim.same fun y hy => OSim.from hm (fillUp_loc l _ rs1 rs1' h'.cons.2 hm.agr)
theorem mvArgs_loc : ∀ (ps : List PM) (l : List Sl) (rs rs' : Roots), AllIn J l → Agr J rs rs' → OSim J rs rs' (mvArgs ps l rs) (mvArgs ps l rs')
  | [], [], rs, rs', _, ha => OSim.some (Mv.refl ha) _
  | [], _ :: _, rs, rs', _, ha => .inl ⟨rfl, rfl⟩
  | _ :: _, [], rs, rs', _, ha => .inl ⟨rfl, rfl⟩
  | m :: ps, s :: l, rs, rs', h, ha => by
    have other : OSim J rs rs' ((mvArgs ps l rs).bind fun h => some (junk :: h.1, h.2)) ((mvArgs ps l rs').bind fun h => some (junk :: h.1, h.2)) :=
      OSim.bind (mvArgs_loc ps l rs rs' h.cons.2 ha) fun b rs1 rs1' hm => OSim.some hm _
    cases m with
    | mv t o =>
      simp only [mvArgs]
      exact OSim.bind (useUp_loc h.cons.1 ha) fun b rs1 rs1' hm => OSim.from hm (OSim.bind (mvArgs_loc ps l rs1 rs1' h.cons.2 hm.agr) fun b2 rs2 rs2' hm2 => OSim.some hm2 _)
    | rd t => exact other
    | ln t o => exact other
    | bn t o => exact other
theorem bundle_loc : ∀ (t : Ty) (o : Ow) (l : List Nat), (∀ r ∈ l, r ∈ J) → Agr J rs rs' → bundle t o l rs = bundle t o l rs'
  | .nl, o, [], _, _ => rfl
  | .pr (.bx a) b, o, r :: l, h, ha => by
    simp only [bundle]
    rw [ha r (h r (by simp)), bundle_loc b o.snd l (fun r hr => h r (by simp [hr])) ha]
  | .nl, _, _ :: _, _, _ => rfl
  | .pr _ _, _, [], _, _ => by simp [bundle]
  | .pr (.int _) _, _, _ :: _, _, _ => rfl
  | .pr .bool _, _, _ :: _, _, _ => rfl
  | .pr .str _, _, _ :: _, _, _ => rfl
  | .pr .nl _, _, _ :: _, _, _ => rfl
  | .pr (.pr _ _) _, _, _ :: _, _, _ => rfl
  | .pr (.sl _) _, _, _ :: _, _, _ => rfl
  | .pr (.arr _ _) _, _, _ :: _, _, _ => rfl
  | .pr (.fn _ _) _, _, _ :: _, _, _ => rfl
  | .int _, _, _, _, _ => rfl
  | .bool, _, _, _, _ => rfl
  | .str, _, _, _, _ => rfl
  | .sl _, _, _, _, _ => rfl
  | .bx _, _, _, _, _ => rfl
  | .arr _ _, _, _, _, _ => rfl
  | .fn _ _, _, _, _, _ => rfl
end
end Go.Rex

/-! The same, of each operation. -/
set_option linter.unusedSimpArgs false
set_option linter.unusedVariables false
namespace Go.Rex
section
variable {F : Nat} {J : List Nat} {rs rs' rs1 rs1' : Roots}

theorem bundleUp_loc : ∀ (t : Ty) (o : Ow) (l : List Nat) (y : t.den), (∀ r ∈ l, r ∈ J) → Agr J rs rs' → bundleUp t o l rs y = bundleUp t o l rs' y
  | .nl, o, [], _, _, _ => rfl
  | .pr (.bx a) b, o, r :: l, y, h, ha => by
    simp only [bundleUp]
    rw [ha r (h r (by simp)), bundleUp_loc b o.snd l y.2 (fun r hr => h r (by simp [hr])) ha]
  | .nl, _, _ :: _, _, _, _ => rfl
  | .pr _ _, _, [], _, _, _ => by simp [bundleUp]
  | .pr (.int _) _, _, _ :: _, _, _, _ => rfl
  | .pr .bool _, _, _ :: _, _, _, _ => rfl
  | .pr .str _, _, _ :: _, _, _, _ => rfl
  | .pr .nl _, _, _ :: _, _, _, _ => rfl
  | .pr (.pr _ _) _, _, _ :: _, _, _, _ => rfl
  | .pr (.sl _) _, _, _ :: _, _, _, _ => rfl
  | .pr (.arr _ _) _, _, _ :: _, _, _, _ => rfl
  | .pr (.fn _ _) _, _, _ :: _, _, _, _ => rfl
  | .int _, _, _, _, _, _ => rfl
  | .bool, _, _, _, _, _ => rfl
  | .str, _, _, _, _, _ => rfl
  | .sl _, _, _, _, _, _ => rfl
  | .bx _, _, _, _, _, _ => rfl
  | .arr _ _, _, _, _, _, _ => rfl
  | .fn _ _, _, _, _, _, _ => rfl

/-- What comes back of what was lent: roots that were there, of a later version. -/
def Upd (J : List Nat) (rs : Roots) (u : List (Nat × Root)) : Prop := ∀ q ∈ u, q.1 ∈ J ∧ ∃ R, lk rs q.1 = some R ∧ R.v < q.2.v
theorem bundleUp_upd : ∀ (t : Ty) (o : Ow) (l : List Nat) (y : t.den) (u : List (Nat × Root)), (∀ r ∈ l, r ∈ J) → bundleUp t o l rs y = some u → Upd J rs u
  | .nl, o, [], _, u, _, h => by simp only [bundleUp, Option.some.injEq] at h; subst h; intro q hq; simp at hq
  | .pr (.bx a) b, o, r :: l, y, u, hl, h => by
    simp only [bundleUp, Option.bind_eq_some_iff, Option.some.injEq] at h
    obtain ⟨R, hR, u', hu, rfl⟩ := h
    intro q hq
    rcases List.mem_cons.1 hq with rfl | hq
    · exact ⟨hl r (by simp), R, hR, Nat.lt_succ_self _⟩
    · exact bundleUp_upd b o.snd l y.2 u' (fun r hr => hl r (by simp [hr])) hu q hq
  | .nl, _, _ :: _, _, _, _, h => by simp [bundleUp] at h
  | .pr _ _, _, [], _, _, _, h => by simp [bundleUp] at h
  | .pr (.int _) _, _, _ :: _, _, _, _, h => by simp [bundleUp] at h
  | .pr .bool _, _, _ :: _, _, _, _, h => by simp [bundleUp] at h
  | .pr .str _, _, _ :: _, _, _, _, h => by simp [bundleUp] at h
  | .pr .nl _, _, _ :: _, _, _, _, h => by simp [bundleUp] at h
  | .pr (.pr _ _) _, _, _ :: _, _, _, _, h => by simp [bundleUp] at h
  | .pr (.sl _) _, _, _ :: _, _, _, _, h => by simp [bundleUp] at h
  | .pr (.arr _ _) _, _, _ :: _, _, _, _, h => by simp [bundleUp] at h
  | .pr (.fn _ _) _, _, _ :: _, _, _, _, h => by simp [bundleUp] at h
  | .int _, _, _, _, _, _, h => by simp [bundleUp] at h
  | .bool, _, _, _, _, _, h => by simp [bundleUp] at h
  | .str, _, _, _, _, _, h => by simp [bundleUp] at h
  | .sl _, _, _, _, _, _, h => by simp [bundleUp] at h
  | .bx _, _, _, _, _, _, h => by simp [bundleUp] at h
  | .arr _ _, _, _, _, _, _, h => by simp [bundleUp] at h
  | .fn _ _, _, _, _, _, _, h => by simp [bundleUp] at h
theorem lendUp_upd {q : Pl} {t : Ty} {o : Ow} {y : t.den} {v : Nat × Root} (h : lendUp q t o y = some v) (hJ : q.r ∈ J) (hR : lk rs q.r = some q.R) : v.1 ∈ J ∧ ∃ R, lk rs v.1 = some R ∧ R.v < v.2.v := by
  simp only [lendUp, Option.bind_eq_some_iff, Option.some.injEq] at h
  obtain ⟨z, _, rfl⟩ := h
  exact ⟨hJ, q.R, hR, Nat.lt_succ_self _⟩
theorem Upd.append {u v : List (Nat × Root)} (h : Upd J rs u) (h' : Upd J rs v) : Upd J rs (u ++ v) := fun q hq => by
  rcases List.mem_append.1 hq with hq | hq
  · exact h q hq
  · exact h' q hq
theorem Upd.cons {u : List (Nat × Root)} {v : Nat × Root} (h : v.1 ∈ J ∧ ∃ R, lk rs v.1 = some R ∧ R.v < v.2.v) (h' : Upd J rs u) : Upd J rs (v :: u) := fun q hq => by
  rcases List.mem_cons.1 hq with rfl | hq
  · exact h
  · exact h' q hq

theorem matchArgs_loc : ∀ (ps : List PM) (l : List Sl) (fs : List Foc), AllIn J l → Agr J rs rs' → matchArgs ps l fs rs = matchArgs ps l fs rs' ∧ ∀ m, matchArgs ps l fs rs = some m → ∀ y u, m.upds y = some u → Upd J rs u
  | [], [], [], _, _ => ⟨rfl, fun m hm y u hu => by
    simp only [matchArgs, Option.some.injEq] at hm
    subst hm
    simp only [Option.some.injEq] at hu
    subst hu
    intro q hq; simp at hq⟩
  | .rd t :: ps, s :: l, f :: fs, h, ha => by
    obtain ⟨e1, e2⟩ := matchArgs_loc ps l fs h.cons.2 ha
    refine ⟨by simp only [matchArgs]; rw [lookAt_loc h.cons.1 ha, e1], fun m hm y u hu => ?_⟩
    simp only [matchArgs, Option.bind_eq_some_iff] at hm
    obtain ⟨g, _, hm⟩ := hm
    split at hm
    · simp only [Option.bind_eq_some_iff, Option.some.injEq] at hm
      obtain ⟨m', hm', rfl⟩ := hm
      exact e2 m' hm' y u hu
    · simp at hm
  | .mv t o :: ps, s :: l, f :: fs, h, ha => by
    obtain ⟨e1, e2⟩ := matchArgs_loc ps l fs h.cons.2 ha
    refine ⟨by simp only [matchArgs]; rw [e1], fun m hm y u hu => ?_⟩
    simp only [matchArgs] at hm
    split at hm
    · cases hc : f.o.le o <;> rw [hc] at hm
      · simp at hm
      simp only [cond_true, Option.bind_eq_some_iff, Option.some.injEq] at hm
      obtain ⟨m', hm', rfl⟩ := hm
      exact e2 m' hm' y u hu
    · simp at hm
  | .ln t o :: ps, s :: l, f :: fs, h, ha => by
    obtain ⟨e1, e2⟩ := matchArgs_loc ps l fs h.cons.2 ha
    unfold matchArgs
    split
    · rename_i f' c g caps
      have hcaps : ∀ r ∈ caps, r ∈ J := fun r hr => h.cons.1 r (by simpa [Sl.refs] using hr)
      have e3 : ∀ y, bundleUp c o.cap caps rs y = bundleUp c o.cap caps rs' y := fun y => bundleUp_loc c o.cap caps y hcaps ha
      refine ⟨by rw [bundle_loc c o.cap caps hcaps ha, e1]; simp only [e3], fun m hm y u hu => ?_⟩
      cases hc : (Nat.beq f' g && nott (isHole o)) <;> rw [hc] at hm
      · simp at hm
      simp only [cond_true, Option.bind_eq_some_iff, Option.some.injEq] at hm
      obtain ⟨b, _, m', hm', rfl⟩ := hm
      simp only [Option.bind_eq_some_iff, Option.some.injEq] at hu
      obtain ⟨u1, hu1, v, hv, rfl⟩ := hu
      rw [appL_eq]
      exact (bundleUp_upd c o.cap caps _ v hcaps hv).append (e2 m' hm' _ u1 hu1)
    · refine ⟨by rw [ownSlice_loc h.cons.1 ha, e1], fun m hm y u hu => ?_⟩
      simp only [Option.bind_eq_some_iff] at hm
      obtain ⟨q, hq, hm⟩ := hm
      obtain ⟨hr, hR⟩ := ownSlice_root hq
      split at hm
      · cases hc : Ow.eqb q.2.o o <;> rw [hc] at hm
        · simp at hm
        simp only [cond_true, Option.bind_eq_some_iff, Option.some.injEq] at hm
        obtain ⟨m', hm', rfl⟩ := hm
        simp only [Option.bind_eq_some_iff, Option.some.injEq] at hu
        obtain ⟨u1, hu1, v, hv, rfl⟩ := hu
        exact .cons (lendUp_upd hv (h.cons.1 _ hr) hR) (e2 m' hm' _ u1 hu1)
      · simp at hm
  | .bn t o :: ps, s :: l, f :: fs, h, ha => by
    obtain ⟨e1, e2⟩ := matchArgs_loc ps l fs h.cons.2 ha
    refine ⟨by simp only [matchArgs]; rw [ownSlice_loc h.cons.1 ha, e1], fun m hm y u hu => ?_⟩
    simp only [matchArgs, Option.bind_eq_some_iff] at hm
    obtain ⟨q, hq, hm⟩ := hm
    obtain ⟨hr, hR⟩ := ownSlice_root hq
    split at hm
    · rename_i f' c o' x hq2
      cases hc : (bxChain t && nott (isHole o') && Ow.eqb o'.cap o) <;> rw [hc] at hm
      · simp at hm
      simp only [cond_true] at hm
      split at hm
      · simp only [Option.bind_eq_some_iff, Option.some.injEq] at hm
        obtain ⟨m', hm', rfl⟩ := hm
        simp only [Option.bind_eq_some_iff, Option.some.injEq] at hu
        obtain ⟨u1, hu1, v, hv, rfl⟩ := hu
        exact .cons (lendUp_upd hv (h.cons.1 _ hr) hR) (e2 m' hm' _ u1 hu1)
      · simp at hm
    · simp at hm
  | [], [], _ :: _, _, _ => ⟨rfl, fun m hm => by simp [matchArgs] at hm⟩
  | [], _ :: _, _, _, _ => ⟨rfl, fun m hm => by simp [matchArgs] at hm⟩
  | m :: _, [], _, _, _ => ⟨by cases m <;> rfl, fun m' hm => by cases m <;> simp [matchArgs] at hm⟩
  | m :: _, _ :: _, [], _, _ => ⟨by cases m <;> rfl, fun m' hm => by cases m <;> simp [matchArgs] at hm⟩

theorem sttAll_mv (ha : Agr J rs rs') {u : List (Nat × Root)} (hu : Upd J rs u) : Mv J rs (sttAll rs u) rs' (sttAll rs' u) := by
  have out : ∀ j, j ∉ J → lk u j = none := fun j hj => by
    cases h : lk u j with
    | none => rfl
    | some R => exact absurd (hu _ (lk_mem h)).1 hj
  refine ⟨fun j hj => ?_, fun j hj => ?_, fun j hj => ?_, fun j => ?_⟩
  · rw [lk_sttAll, lk_sttAll, ha j hj]
  · rw [lk_sttAll, out j hj]
  · rw [lk_sttAll, out j hj]
  · rw [lk_sttAll]
    cases h : lk u j with
    | none => exact Way.refl _
    | some R' =>
      obtain ⟨_, R, hR, hv⟩ := hu _ (lk_mem h)
      dsimp only at hR hv ⊢
      rw [hR]
      exact .inr (.inr ⟨R', rfl, hv⟩)

section
variable (hF : F ∈ J) (hn : lk rs F = none) (hn' : lk rs' F = none)
include hF hn hn'
theorem retSl_loc (h : Mv J rs rs1 rs' rs1') (s : Summ) (y : s.σ) : (retSl s y rs1 F = none ∧ retSl s y rs1' F = none) ∨ ∃ t r2 r2', retSl s y rs1 F = some (t, r2) ∧ retSl s y rs1' F = some (t, r2') ∧ Fn F J rs r2 rs' r2' := by
  unfold retSl
  split
  · exact .inr ⟨_, _, _, rfl, rfl, h.fn⟩
  · cases s.ro.pure
    · exact .inr ⟨_, _, _, rfl, rfl, h.rapp hF hn hn' _⟩
    · exact .inr ⟨_, _, _, rfl, rfl, h.fn⟩
  · cases s.ro.pure
    · exact .inr ⟨_, _, _, rfl, rfl, h.rapp hF hn hn' _⟩
    · exact .inr ⟨_, _, _, rfl, rfl, h.fn⟩
theorem callRes_loc (s : Summ) {as : List Sl} (h : AllIn J as) (ha : Agr J rs rs') : Sim F J rs rs' (callRes s as rs F) (callRes s as rs' F) := by
  unfold callRes
  refine Sim.bind (mvArgs_loc s.ps as rs rs' h ha) fun b rs1 rs1' hm => ?_
  obtain ⟨e1, e2⟩ := matchArgs_loc (rs := rs1) (rs' := rs1') s.ps as b h hm.agr
  dsimp only
  rw [← e1]
  refine Sim.same fun m hmm => Sim.bif fun _ => .call _ _ _ _ fun y => ?_
  cases hu : m.upds (s.fin y) with
  | none => exact .inl ⟨rfl, rfl⟩
  | some u => exact retSl_loc hF hn hn' (hm.trans (sttAll_mv hm.agr (e2 m hmm _ u hu))) s y
theorem trySumms_loc (b : Bool) (f : Nat) {as : List Sl} (h : AllIn J as) (ha : Agr J rs rs') : ∀ T, Sim F J rs rs' (trySumms b f as rs F T) (trySumms b f as rs' F T)
  | [] => .fail
  | (g, s) :: l => by
    have ih := trySumms_loc b f h ha l
    have hc := callRes_loc hF hn hn' s h ha
    simp only [trySumms]
    cases Nat.beq g f && bnShape b s.ps
    · exact ih
    · simp only [cond_true]
      generalize callRes s as rs F = A at hc ⊢
      generalize callRes s as rs' F = B at hc ⊢
      cases hc with
      | fail => exact ih
      | ok c s' r1 r1' h => exact .ok c s' r1 r1' h
      | call σ x f f' h => exact .call σ x f f' h
theorem newRes_loc (h : Mv J rs rs1 rs' rs1') (f : Foc) : Sim F J rs rs' (newRes f rs1 F) (newRes f rs1' F) := by
  unfold newRes
  cases f.o.pure
  · exact .ok _ _ _ _ (h.rapp hF hn hn' _)
  · exact Sim.rd h _ _
omit hF hn hn' in
theorem appX_loc {rs rs' : Roots} {t : Ty} {x : Sl} (hx : ∀ r ∈ x.refs, r ∈ J) (ha : Agr J rs rs') : (appX t x rs = none ∧ appX t x rs' = none) ∨ ∃ f o r1 r1', appX t x rs = some (f, (o, r1)) ∧ appX t x rs' = some (f, (o, r1')) ∧ Mv J rs r1 rs' r1' := by
  cases x with
  | dt t' y =>
    cases t' <;> first | exact .inl ⟨rfl, rfl⟩ | exact .inr ⟨_, _, _, _, rfl, rfl, Mv.refl ha⟩
  | nilS => exact .inr ⟨_, _, _, _, rfl, rfl, Mv.refl ha⟩
  | rf r v p ix =>
    simp only [appX]
    rw [← ownSlice_loc hx ha]
    cases hq : ownSlice (.rf r v p ix) rs with
    | none => exact .inl ⟨rfl, rfl⟩
    | some q =>
      simp only [Option.bind_some]
      split
      · exact .inr ⟨_, _, _, _, rfl, rfl, Mv.refl ha⟩
      · exact .inr ⟨_, _, _, _, rfl, rfl, Mv.refl ha⟩
      · rename_i o2 _
        cases o2.pure
        · simp only [cond_false]
          rcases useUp_loc (want := .sl t) hx ha with ⟨h1, h2⟩ | ⟨b, r1, r1', h1, h2, hm⟩
          · rw [h1, h2]; exact .inl ⟨rfl, rfl⟩
          · rw [h1, h2]
            simp only [Option.bind_some]
            split
            · exact .inr ⟨_, _, _, _, rfl, rfl, hm⟩
            · exact .inl ⟨rfl, rfl⟩
        · exact .inr ⟨_, _, _, _, rfl, rfl, Mv.refl ha⟩
      · exact .inl ⟨rfl, rfl⟩
  | _ => exact .inl ⟨rfl, rfl⟩
theorem appendRes_loc (erow : TRow) {s x : Sl} (hs : ∀ r ∈ s.refs, r ∈ J) (hx : ∀ r ∈ x.refs, r ∈ J) (ha : Agr J rs rs') : Sim F J rs rs' (appendRes erow s x rs F) (appendRes erow s x rs' F) := by
  unfold appendRes
  refine Sim.bif fun _ => Sim.bind (useUp_loc hs ha) fun b rs1 rs1' hm => ?_
  dsimp only
  split
  · refine Sim.bif fun _ => Sim.same fun o1 _ => ?_
    rcases appX_loc (J := J) hx hm.agr with ⟨h1, h2⟩ | ⟨f, o, r1, r1', h1, h2, hm2⟩
    · rw [h1, h2]; exact .fail
    · rw [h1, h2]
      simp only [OpRes.ofOpt]
      split
      · split
        · exact Sim.same fun o' _ => Sim.mk (hm.trans hm2) hF hn hn' _ _
        · exact .fail
      · exact .fail
  · exact .fail
end
end
end Go.Rex

/-! The same, of any operation. -/
set_option linter.unusedSimpArgs false
set_option linter.unusedVariables false
namespace Go.Rex
section
variable {F : Nat} {J : List Nat} {rs rs' : Roots}

theorem mapL_congr {α β : Type} {f g : α → β} : ∀ {l : List α}, (∀ x ∈ l, f x = g x) → mapL f l = mapL g l
  | [], _ => rfl
  | x :: l, h => by simp only [mapL]; rw [h x (by simp), mapL_congr fun y hy => h y (by simp [hy])]
theorem opRes_congr {G : Cfg} {ρ ρ' : Operand → Sl} (op : Op) (h : ∀ x ∈ opsOf op, ρ x = ρ' x) : opRes G ρ op rs F = opRes G ρ' op rs F := by
  cases op <;> simp only [opsOf] at h <;> (try rfl)
  case move x => simp only [opRes]; rw [h x (by simp)]
  case assign x => simp only [opRes]; rw [h x (by simp)]
  case pick c a b => simp only [opRes]; rw [h c (by simp), h a (by simp), h b (by simp)]
  case box t x => simp only [opRes]; rw [h x (by simp)]
  case build t ps =>
    simp only [opRes]
    rw [mapL_congr (f := fun p : Nat × Operand => (p.1, ρ p.2)) (g := fun p => (p.1, ρ' p.2)) fun p hp => by rw [h p.2 (by rw [mapL_eq]; exact List.mem_map.2 ⟨p, hp, rfl⟩)]]
  case buildSlice t n ps =>
    simp only [opRes]
    rw [mapL_congr (f := fun p : Nat × Operand => ρ p.2) (g := fun p => ρ' p.2) fun p hp => h p.2 (by rw [mapL_eq]; exact List.mem_map.2 ⟨p, hp, rfl⟩)]
  case load t x => simp only [opRes]; rw [h x (by simp)]
  case store t x v => simp only [opRes]; rw [h x (by simp), h v (by simp)]
  case nilCheck x => simp only [opRes]; rw [h x (by simp)]
  case binOp b t x y t' => simp only [opRes]; rw [h x (by simp), h y (by simp)]
  case unOp u t x => simp only [opRes]; rw [h x (by simp)]
  case convert c d x => simp only [opRes]; rw [h x (by simp)]
  case makeFunc fn first caps =>
    cases fn <;> simp only [opRes] <;> rw [mapL_congr (f := ρ) (g := ρ') fun x hx => h x (by simpa using hx)]
  case makeSlice t n c => simp only [opRes]; rw [h n (by simp), h c (by simp)]
  case slice t x lo hi mx =>
    have h1 : Option.map ρ lo = Option.map ρ' lo := by
      cases lo with
      | none => rfl
      | some y => simp only [Option.map_some]; rw [h y (by simp [appL, optL, appL_eq])]
    have h2 : Option.map ρ hi = Option.map ρ' hi := by
      cases hi with
      | none => rfl
      | some y => simp only [Option.map_some]; rw [h y (by simp [appL_eq, optL])]
    simp only [opRes]; rw [h x (by simp), h1, h2]
  case fieldAddr t x j => simp only [opRes]; rw [h x (by simp)]
  case field t x j => simp only [opRes]; rw [h x (by simp)]
  case indexAddr t x i => simp only [opRes]; rw [h x (by simp), h i (by simp)]
  case index t x i => simp only [opRes]; rw [h x (by simp), h i (by simp)]
  case extract x j => simp only [opRes]; rw [h x (by simp)]
  case call c =>
    obtain ⟨callee, args, ats⟩ := c
    cases callee with
    | builtin b => simp only [opRes]; rw [mapL_congr (f := ρ) (g := ρ') fun x hx => h x (by simpa using hx)]
    | value f => simp only [opRes]; rw [h f (by simp), mapL_congr (f := ρ) (g := ρ') fun x hx => h x (by simp at hx ⊢; exact .inr hx)]
    | invoke r m => rfl

theorem refs_ok {s : Sl} {l : List Nat} (h : l = s.refs) (hs : ∀ r ∈ s.refs, r ∈ J) : ∀ r ∈ l, r ∈ J := h ▸ hs

section
variable (ha : Agr J rs rs')
include ha
theorem pickRes_loc (c a b : Sl) : Sim F J rs rs' (pickRes c a b rs) (pickRes c a b rs') := by
  have hm := Mv.refl ha
  unfold pickRes
  split
  · split
    · split
      · exact Sim.rd hm _ _
      · exact .fail
    · split <;> exact Sim.rd hm _ _
  · exact .fail
theorem intOp_loc (op : BinOp) (k : IntKind) (x y : Int) : Sim F J rs rs' (intOp op k x y rs) (intOp op k x y rs') := by
  have hm := Mv.refl ha
  cases op <;> first | exact Sim.rd hm _ _ | exact .fail
theorem strOp_loc (op : BinOp) (x y : ByteArray) : Sim F J rs rs' (strOp op x y rs) (strOp op x y rs') := by
  have hm := Mv.refl ha
  cases op <;> first | exact Sim.rd hm _ _ | exact .fail
theorem binRes_loc (op : BinOp) (x y : Sl) : Sim F J rs rs' (binRes op x y rs) (binRes op x y rs') := by
  have hm := Mv.refl ha
  unfold binRes
  split
  · split
    · exact Sim.rd hm _ _
    · exact Sim.rd hm _ _
    · exact Sim.bif fun _ => intOp_loc ha _ _ _ _
  · exact strOp_loc ha _ _ _
  · exact .fail
theorem boolRes_loc (row : TRow) (op : BinOp) (x y : Sl) : Sim F J rs rs' (boolRes row op x y rs) (boolRes row op x y rs') := by
  have hm := Mv.refl ha
  unfold boolRes
  split
  · refine Sim.bif fun _ => ?_
    split
    · exact Sim.rd hm _ _
    · exact Sim.rd hm _ _
    · exact .fail
  · exact .fail
theorem unRes_loc (op : UnOp) (x : Sl) : Sim F J rs rs' (unRes op x rs) (unRes op x rs') := by
  have hm := Mv.refl ha
  unfold unRes
  split
  · exact Sim.rd hm _ _
  · exact Sim.rd hm _ _
  · exact .fail
theorem indexRes_loc (row : TRow) (x i : Sl) : Sim F J rs rs' (indexRes row x i rs) (indexRes row x i rs') := by
  have hm := Mv.refl ha
  unfold indexRes
  split
  · exact Sim.bif fun _ => Sim.rd hm _ _
  · exact .fail
theorem cutRes_loc (x : Sl) (lo hi : Option Sl) : Sim F J rs rs' (cutRes x lo hi rs) (cutRes x lo hi rs') := by
  have hm := Mv.refl ha
  unfold cutRes
  split
  · exact Sim.same fun _ _ => Sim.same fun _ _ => Sim.rd hm _ _
  · exact .fail
theorem loadRes_loc (row : TRow) {s : Sl} (hs : ∀ r ∈ s.refs, r ∈ J) : Sim F J rs rs' (loadRes row s rs) (loadRes row s rs') := by
  have hm := Mv.refl ha
  have hp := placeOf_loc hs ha
  unfold loadRes
  split
  · exact Sim.bif fun _ => Sim.rd hm _ _
  · rw [← hp]
    refine Sim.same fun q _ => Sim.bif fun _ => ?_
    cases (getAt q.p q.ix q.R.foc).o.pure <;> exact Sim.rd hm _ _
theorem storeRes_loc (row : TRow) {s v : Sl} (hs : ∀ r ∈ s.refs, r ∈ J) (hv : ∀ r ∈ v.refs, r ∈ J) : Sim F J rs rs' (storeRes row s v rs) (storeRes row s v rs') := by
  unfold storeRes
  refine Sim.bind (useUp_loc hv ha) fun b rs1 rs1' hm => ?_
  dsimp only
  rw [← placeOf_loc hs hm.agr]
  refine Sim.same fun q hq => Sim.bif fun _ => Sim.same fun y _ => ?_
  obtain ⟨h1, h2⟩ := placeOf_root hq
  exact .ok _ _ _ _ (hm.trans (Mv.stt hm.agr (hs _ h1) h2 (Nat.lt_succ_self _))).fn
theorem indexAddrRes_loc (erow : TRow) {x : Sl} (i : Sl) (hx : ∀ r ∈ x.refs, r ∈ J) : Sim F J rs rs' (indexAddrRes erow x i rs) (indexAddrRes erow x i rs') := by
  have hm := Mv.refl ha
  unfold indexAddrRes
  split
  · split
    · exact Sim.bif fun _ => Sim.rd hm _ _
    · rename_i r v p ix
      rw [← ha r (hx r (by simp [Sl.refs]))]
      refine Sim.same fun R _ => Sim.bif fun _ => ?_
      split
      · refine Sim.bif fun _ => ?_
        split
        · exact Sim.rd hm _ _
        · exact Sim.rd hm _ _
        · exact .fail
      · exact .fail
    · exact .fail
  · exact .fail
theorem indexArrRes_loc (n : Nat) (erow : TRow) {x : Sl} (i : Sl) (hx : ∀ r ∈ x.refs, r ∈ J) : Sim F J rs rs' (indexArrRes n erow x i rs) (indexArrRes n erow x i rs') := by
  have hm := Mv.refl ha
  have hp := placeOf_loc hx ha
  unfold indexArrRes
  split
  · split
    · exact Sim.bif fun _ => Sim.rd hm _ _
    · rw [← hp]
      refine Sim.same fun q _ => Sim.bif fun _ => ?_
      split
      · exact Sim.bif fun _ => Sim.rd hm _ _
      · exact .fail
  · exact .fail
theorem fieldAddrRes_loc (row : TRow) {x : Sl} (j : Nat) (hx : ∀ r ∈ x.refs, r ∈ J) : Sim F J rs rs' (fieldAddrRes row x j rs) (fieldAddrRes row x j rs') := by
  have hm := Mv.refl ha
  have hp := placeOf_loc hx ha
  unfold fieldAddrRes
  split
  · exact Sim.bif fun _ => Sim.rd hm _ _
  · rw [← hp]
    exact Sim.same fun q _ => Sim.bif fun _ => Sim.rd hm _ _
theorem fieldRes_loc (row : TRow) {x : Sl} (j : Nat) (hx : ∀ r ∈ x.refs, r ∈ J) : Sim F J rs rs' (fieldRes row x j rs) (fieldRes row x j rs') := by
  have hm := Mv.refl ha
  unfold fieldRes
  split
  · exact Sim.bif fun _ => Sim.rd hm _ _
  · rename_i r v p ix
    rw [← ha r (hx r (by simp [Sl.refs]))]
    refine Sim.same fun R _ => Sim.bif fun _ => ?_
    cases (getAt (papp p (fp j)) ix R.foc).o.pure <;> exact Sim.rd hm _ _
  · exact .fail
theorem extractRes_loc {x : Sl} (j : Nat) (hx : ∀ r ∈ x.refs, r ∈ J) : Sim F J rs rs' (extractRes x j rs) (extractRes x j rs') := by
  have hm := Mv.refl ha
  unfold extractRes
  split
  · exact Sim.bif fun _ => Sim.rd hm _ _
  · rename_i r
    rw [← ha r (hx r (by simp [Sl.refs]))]
    refine Sim.same fun R _ => Sim.bif fun _ => ?_
    cases (getAt (fp j) [] R.foc).o.pure <;> exact Sim.rd hm _ _
  · exact .fail
theorem lenRes_loc (row : TRow) {x : Sl} (hx : ∀ r ∈ x.refs, r ∈ J) : Sim F J rs rs' (lenRes row x rs) (lenRes row x rs') := by
  have hm := Mv.refl ha
  unfold lenRes
  split
  · exact Sim.bif fun _ => Sim.rd hm _ _
  · exact Sim.bif fun _ => Sim.rd hm _ _
  · exact Sim.bif fun _ => Sim.rd hm _ _
  · rename_i r v p ix
    rw [← ha r (hx r (by simp [Sl.refs]))]
    refine Sim.bif fun _ => Sim.same fun R _ => Sim.bif fun _ => ?_
    split
    · exact Sim.rd hm _ _
    · exact Sim.rd hm _ _
    · exact Sim.rd hm _ _
    · exact .fail
  · exact .fail
theorem convRes_loc (c d : TRow) {x : Sl} (hx : ∀ r ∈ x.refs, r ∈ J) : Sim F J rs rs' (convRes c d x rs) (convRes c d x rs') := by
  have hm := Mv.refl ha
  unfold convRes
  split
  · exact Sim.rd hm _ _
  · exact Sim.rd hm _ _
  · exact Sim.bif fun _ => Sim.rd hm _ _
  · rw [← ownSlice_loc hx ha]
    refine Sim.bif fun _ => Sim.same fun q _ => ?_
    split
    · exact Sim.bif fun _ => Sim.rd hm _ _
    · exact .fail
  · exact .fail
variable (hF : F ∈ J) (hn : lk rs F = none) (hn' : lk rs' F = none)
include hF hn hn'
theorem sliceRes_loc (erow : TRow) {x : Sl} (lo hi : Option Sl) (hx : ∀ r ∈ x.refs, r ∈ J) : Sim F J rs rs' (sliceRes erow x lo hi rs F) (sliceRes erow x lo hi rs' F) := by
  have hm := Mv.refl ha
  unfold sliceRes
  split
  · exact Sim.bif fun _ => Sim.same fun _ _ => Sim.same fun _ _ => Sim.rd hm _ _
  · refine Sim.bind (useUp_loc hx ha) fun b rs1 rs1' hm => ?_
    dsimp only
    split
    · exact Sim.bif fun _ => Sim.same fun _ _ => Sim.same fun _ _ => Sim.mk hm hF hn hn' _ _
    · exact .fail
  · exact .fail
theorem builtinRes_loc (G : Cfg) (b : Builtin) (ats : List TypeId) {as : List Sl} (h : AllIn J as) : Sim F J rs rs' (builtinRes G b ats as rs F) (builtinRes G b ats as rs' F) := by
  have hm := Mv.refl ha
  unfold builtinRes
  split
  · split
    · exact Sim.same fun row _ => lenRes_loc ha row h.cons.1
    · exact .fail
  · split
    · exact Sim.same fun row _ => Sim.bif fun _ => Sim.rd hm _ _
    · exact .fail
  · split
    · refine Sim.bif fun _ => Sim.same fun row _ => ?_
      split
      · exact Sim.same fun erow _ => appendRes_loc hF hn hn' erow h.cons.1 h.cons.2.cons.1 ha
      · exact .fail
    · exact .fail
  · exact Sim.same fun r _ => Sim.rd hm _ _
  · exact Sim.same fun r _ => Sim.rd hm _ _
  · exact .fail

theorem opRes_loc1 (G : Cfg) (ρ : Operand → Sl) (op : Op) (hJ : ∀ x ∈ opsOf op, ∀ r ∈ (ρ x).refs, r ∈ J) : Sim F J rs rs' (opRes G ρ op rs F) (opRes G ρ op rs' F) := by
  have hm := Mv.refl ha
  have all : ∀ l : List Operand, (∀ x ∈ l, x ∈ opsOf op) → AllIn J (mapL ρ l) := fun l hl s hs r hr => by
    rw [mapL_eq] at hs
    obtain ⟨x, hx, rfl⟩ := List.mem_map.1 hs
    exact hJ x (hl x hx) r hr
  cases op <;> simp only [opsOf] at hJ all <;> (try exact .fail) <;> simp only [opRes]
  case move x => exact Sim.rd hm _ _
  case assign x => exact Sim.rd hm _ _
  case pick c a b => exact pickRes_loc ha _ _ _
  case alloc t => exact Sim.same fun row _ => Sim.bif fun _ => Sim.mk hm hF hn hn' _ _
  case box t x => exact Sim.same fun row _ => Sim.bind (useUp_loc (hJ x (by simp)) ha) fun b rs1 rs1' hm => Sim.bif fun _ => Sim.mk hm hF hn hn' _ _
  case build t ps =>
    refine Sim.same fun row _ => ?_
    unfold buildRes
    refine Sim.bif fun _ => ?_
    split
    · refine Sim.bind (fillUp_loc _ _ _ _ ?_ ha) fun b rs1 rs1' hm => newRes_loc hF hn hn' hm _
      intro s hs r hr
      rw [mapL_eq, List.map_map] at hs
      obtain ⟨p, hp, rfl⟩ := List.mem_map.1 hs
      exact hJ p.2 (by rw [mapL_eq]; exact List.mem_map.2 ⟨p, hp, rfl⟩) r hr
    · exact .fail
  case buildSlice t n ps =>
    refine Sim.same fun row _ => ?_
    split
    · refine Sim.same fun erow _ => ?_
      unfold buildSliceRes
      refine Sim.bif fun _ => Sim.bind (useUps_loc _ _ _ ?_ ha) fun b rs1 rs1' hm => Sim.same fun _ _ => Sim.same fun _ _ => Sim.mk hm hF hn hn' _ _
      intro s hs r hr
      rw [mapL_eq] at hs
      obtain ⟨p, hp, rfl⟩ := List.mem_map.1 hs
      exact hJ p.2 (by rw [mapL_eq]; exact List.mem_map.2 ⟨p, hp, rfl⟩) r hr
    · exact .fail
  case load t x => exact Sim.same fun row _ => loadRes_loc ha row (hJ x (by simp))
  case store t x v => exact Sim.same fun row _ => storeRes_loc ha row (hJ x (by simp)) (hJ v (by simp))
  case nilCheck x =>
    have hx := hJ x (by simp)
    split
    · rename_i hs
      rw [hs] at hx
      rw [← placeOf_loc hx ha]
      exact Sim.same fun _ _ => Sim.rd hm _ _
    · rename_i hs
      rw [hs] at hx
      rw [← placeOf_loc hx ha]
      exact Sim.same fun _ _ => Sim.rd hm _ _
    · exact Sim.rd hm _ _
    · exact .fail
  case binOp b t x y t' =>
    cases isBoolSl (ρ x)
    · exact binRes_loc ha _ _ _
    · exact Sim.same fun row _ => boolRes_loc ha _ _ _ _
  case unOp u t x => exact unRes_loc ha _ _
  case convert c d x => exact Sim.same fun crow _ => Sim.same fun row _ => convRes_loc ha _ _ (hJ x (by simp))
  case makeFunc fn first caps =>
    cases fn <;> first | exact .fail | exact Sim.bif fun _ => Sim.same fun _ _ => Sim.rd hm _ _
  case makeSlice t n c =>
    refine Sim.same fun row _ => ?_
    split
    · refine Sim.same fun erow _ => ?_
      unfold makeSliceRes
      refine Sim.bif fun _ => ?_
      split
      · exact Sim.mk hm hF hn hn' _ _
      · exact .fail
    · exact .fail
  case slice t x lo hi mx =>
    refine Sim.bif fun _ => Sim.same fun row _ => ?_
    split
    · exact Sim.same fun erow _ => sliceRes_loc ha hF hn hn' erow _ _ (hJ x (by simp))
    · exact Sim.bif fun _ => cutRes_loc ha _ _ _
    · exact .fail
  case fieldAddr t x j =>
    refine Sim.same fun row _ => ?_
    split
    · exact Sim.bif fun _ => fieldAddrRes_loc ha row j (hJ x (by simp))
    · exact .fail
  case field t x j =>
    refine Sim.same fun row _ => ?_
    split
    · exact Sim.bif fun _ => fieldRes_loc ha row j (hJ x (by simp))
    · exact .fail
  case indexAddr t x i =>
    refine Sim.same fun row _ => ?_
    split
    · exact Sim.same fun erow _ => indexAddrRes_loc ha erow _ (hJ x (by simp))
    · exact Sim.same fun erow _ => indexArrRes_loc ha _ erow _ (hJ x (by simp))
    · exact .fail
  case index t x i => exact Sim.same fun row _ => indexRes_loc ha _ _ _
  case extract x j => exact extractRes_loc ha j (hJ x (by simp))
  case call c =>
    obtain ⟨callee, args, ats⟩ := c
    cases callee with
    | builtin b => exact builtinRes_loc ha hF hn hn' G b _ (all _ fun x hx => hx)
    | value f =>
      have hf := hJ f (by simp)
      have hargs := all args.toList fun x hx => by simp only [List.mem_cons]; exact .inr hx
      dsimp only at hf hargs ⊢
      split
      · rename_i g k hs
        refine trySumms_loc hF hn hn' _ _ ?_ ha _
        intro s hs' r hr
        rw [appL_eq] at hs'
        rcases List.mem_append.1 hs' with hs' | hs'
        · exact hargs s hs' r hr
        · rw [hs] at hf
          have : ∀ k : List Nat, (∀ r ∈ k, r ∈ J) → ∀ s ∈ capSlots k, ∀ r ∈ s.refs, r ∈ J := fun k => by
            induction k with
            | nil => intro _ s hs; simp [capSlots] at hs
            | cons q k ih =>
              intro hk s hs
              simp only [capSlots] at hs
              rcases List.mem_cons.1 hs with rfl | hs
              · intro r hr; simp only [Sl.refs, List.mem_singleton] at hr; subst hr; exact hk _ (by simp)
              · exact ih (fun r hr => hk r (by simp [hr])) s hs
          exact this k (by simpa [Sl.refs] using hf) s hs' r hr
      · rename_i r v p ix hs
        rw [hs] at hf
        rw [← ownSlice_loc hf ha]
        refine Sim.same fun q _ => ?_
        split
        · refine Sim.bif fun _ => trySumms_loc hF hn hn' _ _ ?_ ha _
          intro s hs' r' hr
          rw [appL_eq] at hs'
          rcases List.mem_append.1 hs' with hs' | hs'
          · exact hargs s hs' r' hr
          · simp only [List.mem_singleton] at hs'
            subst hs'
            exact hf r' hr
        · exact .fail
      · exact .fail
    | invoke r m => exact .fail
end
end
end Go.Rex

/-! Regions and code. -/
set_option linter.unusedSimpArgs false
set_option linter.unusedVariables false
namespace Go.Rex

section
variable {P : Program} {α : Type}

theorem forceNat_eq (n : Nat) (K : Nat → Option α) : forceNat n K = K n := by cases n <;> rfl
theorem pickK_sound {e : Env} {K : Nat → Option α} {r : α} : ∀ (n d : Nat), pickK e K n d = some r → ∃ F, Fresh e F ∧ K F = some r
  | 0, d, h => by simp [pickK] at h
  | n + 1, d, h => by
    simp only [pickK] at h
    cases hf : freshAt e d <;> rw [hf] at h
    · simp only [cond_false, forceNat_eq] at h; exact pickK_sound n _ h
    · exact ⟨d, freshAt_ok hf, h⟩

/-- From one environment to another by one operation. -/
def Goes (P : Program) (o : Oper) (e e' : Env) : Prop := ∀ (Γ : Ctx) (a : Act) (w : World), St Γ e.ae a w → ∀ (next : Act → World → Prop) (Q : Exit → Act → World → Prop), (∀ a' w', St Γ e'.ae a' w' → next a' w') → o.wp P a w next Q

theorem evOp_sound {G : Cfg} (hG : CfgOK P G) {o : Oper} {e : Env} {K : Env → Option α} {r : α} (h : evOp G o e K = some r) : ∃ e', K e' = some r ∧ Goes P o e e' := by
  unfold evOp at h
  cases hd : dOK e o.dst <;> rw [hd] at h
  · simp at h
  simp only [cond_true] at h
  obtain ⟨F, hF, h⟩ := pickK_sound _ _ h
  cases hop : opRes G e.opd o.op e.ow F with
  | fail => rw [hop] at h; simp at h
  | ok c s rs =>
    rw [hop] at h
    cases c
    · simp [dyn] at h
    · simp only [dyn, setK_eq] at h
      refine ⟨_, h, fun Γ a w hst next Q hn => ?_⟩
      have := opRes_good hG hst hd hF
      rw [hop] at this
      exact this rfl next Q hn
  | call ρ x f =>
    rw [hop] at h
    cases x with
    | none => simp [dbind] at h
    | some y =>
      simp only [dbind] at h
      split at h
      · rename_i q hq
        rw [setK_eq] at h
        refine ⟨_, h, fun Γ a w hst next Q hn => ?_⟩
        have := opRes_good hG hst hd hF
        rw [hop] at this
        exact this y q.1 q.2 rfl hq next Q hn
      · simp at h

theorem putE_same {e : Env} {d : Nat} {s : Sl} (h : e.slot d = s) : (putE e d s).ae = e.ae := by
  simp only [putE, Env.ae, slot_stt]
  congr 1
  funext j
  by_cases hj : j = d
  · subst hj; rw [upd_same, h]
  · rw [upd_other _ _ _ hj]

def unE (e : Env) (d : Option Nat) : Env := match d with
  | some d => putE e d .ud
  | none => e
theorem St.un {Γ : Ctx} {e : Env} {a : Act} {w : World} (h : St Γ e.ae a w) (d : Option Nat) (hd : dOK e d = true) : St Γ (unE e d).ae (a.put d undef) w := by
  obtain ⟨cs, bs, hx⟩ := h.x
  cases d with
  | none => exact h
  | some d =>
    simp only [dOK, Bool.and_eq_true] at hd
    have := (hx.put (d := d) ⟨(by simpa using hd.1 : d < e.nt.n), memN_false (nott_eq hd.2)⟩ (sl := .ud) (v := undef) rfl).st
    simp only [unE, putE, Env.ae, slot_stt]
    exact this

theorem unK_eq {e : Env} {d : Option Nat} {K : Env → Option α} {r : α} (h : unK e d K = some r) : dOK e d = true ∧ K (unE e d) = some r := by
  cases d with
  | none => exact ⟨rfl, h⟩
  | some d =>
    simp only [unK] at h
    cases hd : dOK e (some d) <;> rw [hd] at h
    · simp at h
    · rw [cond_true, putK_eq] at h; exact ⟨rfl, h⟩

/-- One operation of a region. -/
def GoesG (P : Program) (ops : Array Oper) (o : Oper) (e e' : Env) : Prop := ∀ (Γ : Ctx) (a : Act) (w : World), St Γ e.ae a w → ∀ (next : Act → World → Prop) (Q : Exit → Act → World → Prop), (∀ a' w', St Γ e'.ae a' w' → next a' w') →
  if Region.wanted o (yielded ops a.tmps) then o.wp P a w next Q else next (a.put o.dst undef) w

theorem nthL_eq {β : Type} : ∀ (l : List β) (i : Nat), nthL l i = l[i]?
  | [], i => by simp [nthL]
  | x :: l, 0 => rfl
  | x :: l, i + 1 => by simp [nthL, nthL_eq l i]

theorem yielded_slot {Γ : Ctx} {e : Env} {a : Act} {w : World} (h : St Γ e.ae a w) {ops : Array Oper} {j g : Nat} {b : Bool} (hg : (nthL ops.toList j).bind (·.dst) = some g) (hs : e.slot g = .dt .bool b) : yielded ops a.tmps j = some b := by
  obtain ⟨cs, bs, hx⟩ := h.x
  have h1 := hx.slots g
  change SlotOK _ _ _ _ (e.slot g) _ at h1
  rw [hs] at h1
  have h2 := dt_bool h1
  rw [nthL_eq, Array.getElem?_toList] at hg
  have h3 : a.tmps[g]? = some (.bool b) := by
    rw [Array.getD_eq_getD_getElem?] at h2
    cases hq : a.tmps[g]? with
    | none => rw [hq] at h2; simp [undef] at h2
    | some v => rw [hq] at h2; simp at h2; rw [h2]
  cases ho : ops[j]? with
  | none => rw [ho] at hg; simp at hg
  | some o => rw [ho] at hg; simp at hg; simp [yielded, ho, hg, h3]

theorem yielded_ud {Γ : Ctx} {e : Env} {a : Act} {w : World} (h : St Γ e.ae a w) {ops : Array Oper} {j g : Nat} (hg : (nthL ops.toList j).bind (·.dst) = some g) (hs : e.slot g = .ud) : yielded ops a.tmps j = none := by
  obtain ⟨cs, bs, hx⟩ := h.x
  have h1 := hx.slots g
  change SlotOK _ _ _ _ (e.slot g) _ at h1
  rw [hs] at h1
  have h2 : a.tmps.getD g undef = undef := h1
  rw [nthL_eq, Array.getElem?_toList] at hg
  cases ho : ops[j]? with
  | none => rw [ho] at hg; simp at hg
  | some o =>
    rw [ho] at hg
    simp at hg
    rw [Array.getD_eq_getD_getElem?] at h2
    cases hq : a.tmps[g]? with
    | none => simp [yielded, ho, hg, hq]
    | some v =>
      rw [hq] at h2
      simp at h2
      subst h2
      simp [yielded, ho, hg, hq, undef]

theorem evGuard_sound {G : Cfg} (hG : CfgOK P G) {ops : Array Oper} {o : Oper} {e : Env} {K : Env → Option α} {r : α} (h : evGuard G ops.toList o e K = some r) : ∃ e', K e' = some r ∧ GoesG P ops o e e' := by
  unfold evGuard at h
  split at h
  · rename_i hg
    obtain ⟨e', h1, h2⟩ := evOp_sound hG h
    exact ⟨e', h1, fun Γ a w hst next Q hn => by simp only [Region.wanted, hg, if_true]; exact h2 Γ a w hst next Q hn⟩
  · rename_i j want hg
    split at h
    · rename_i g hj
      split at h
      · rename_i b hs
        have hput : ∀ b', b = b' → (putE e g (.dt .bool b')).ae = e.ae := fun b' hb => putE_same (by rw [hs, hb])
        have hwant : ∀ (Γ : Ctx) (a : Act) (w : World), St Γ e.ae a w → Region.wanted o (yielded ops a.tmps) = (b == want) := fun Γ a w hst => by
          simp only [Region.wanted, hg, yielded_slot hst hj hs]
          cases b <;> cases want <;> rfl
        have yes : ∀ b', b = b' → b' = want → evOp G o (putE e g (.dt .bool b')) K = some r → ∃ e', K e' = some r ∧ GoesG P ops o e e' := fun b' hb hw h => by
          obtain ⟨e', h1, h2⟩ := evOp_sound hG h
          refine ⟨e', h1, fun Γ a w hst next Q hn => ?_⟩
          rw [hwant Γ a w hst, hb, hw]
          simp only [beq_self_eq_true, if_true]
          exact h2 Γ a w (by rw [hput b' hb]; exact hst) next Q hn
        have no : ∀ b', b = b' → b' ≠ want → unK (putE e g (.dt .bool b')) o.dst K = some r → ∃ e', K e' = some r ∧ GoesG P ops o e e' := fun b' hb hw h => by
          obtain ⟨hdo, h⟩ := unK_eq h
          refine ⟨_, h, fun Γ a w hst next Q hn => ?_⟩
          have : (b == want) = false := by rw [hb]; simpa using hw
          rw [hwant Γ a w hst, this]
          simp only [Bool.false_eq_true, if_false]
          exact hn _ _ (St.un (by rw [hput b' hb]; exact hst) o.dst hdo)
        cases b <;> cases want <;> simp only [dyn, putK_eq, cond_true, cond_false] at h
        · exact yes false rfl rfl h
        · exact no false rfl (by simp) h
        · exact no true rfl (by simp) h
        · exact yes true rfl rfl h
      · rename_i hs
        obtain ⟨hdo, h⟩ := unK_eq h
        refine ⟨_, h, fun Γ a w hst next Q hn => ?_⟩
        have : Region.wanted o (yielded ops a.tmps) = false := by
          simp only [Region.wanted, hg, yielded_ud hst hj hs]; rfl
        rw [this]
        simp only [Bool.false_eq_true, if_false]
        exact hn _ _ (St.un hst o.dst hdo)
      · simp at h
    · simp at h

theorem evOps_sound {G : Cfg} (hG : CfgOK P G) {ops : Array Oper} : ∀ (l : List Oper) (i : Nat), (∀ k, l[k]? = ops[i + k]?) → ∀ (e : Env) (K : Env → Option α) (r : α), evOps G ops.toList l e K = some r →
    ∃ e', K e' = some r ∧ ∀ (Γ : Ctx) (a : Act) (w : World) (Q : Exit → Act → World → Prop), St Γ e.ae a w → (∀ a' w', St Γ e'.ae a' w' → Q .normal a' w') → wpOps P ops Q (List.range' i l.length) a w
  | [], i, hl, e, K, r, h => ⟨e, h, fun Γ a w Q hst hq => hq a w hst⟩
  | o :: l, i, hl, e, K, r, h => by
    simp only [evOps] at h
    obtain ⟨e1, h1, h2⟩ := evGuard_sound hG h
    obtain ⟨e2, h3, h4⟩ := evOps_sound hG l (i + 1) (fun k => by have := hl (k + 1); rw [List.getElem?_cons_succ] at this; rw [this]; congr 1; omega) e1 K r h1
    refine ⟨e2, h3, fun Γ a w Q hst hq => ?_⟩
    simp only [List.length_cons, List.range'_succ, wpOps]
    have ho : ops[i]? = some o := by have := hl 0; simpa using this.symm
    rw [ho]
    have := h2 Γ a w hst (wpOps P ops Q (List.range' (i + 1) l.length)) Q fun a' w' hst' => h4 Γ a' w' Q hst' hq
    by_cases hw : Region.wanted o (yielded ops a.tmps) = true
    · simp only [hw, if_true] at this ⊢; exact .inl this
    · simp only [hw] at this ⊢; exact this

def Ex.out : Ex → Exit
  | .normal => .normal
  | .exit i => .exit i
  | .ret => .ret
/-- From one environment to another by a stretch of code. -/
def GoesC (P : Program) (c : Code) (e : Env) (x : Ex) (e' : Env) : Prop :=
  ∀ (Γ : Ctx) (a : Act) (w : World) (Q : Exit → Act → World → Prop), St Γ e.ae a w → (∀ a' w', St Γ e'.ae a' w' → Q x.out a' w') → c.wp P Q a w
def LsOK (P : Program) (Ls : Loops) : Code → Nat → Prop
  | .seq a b, n => LsOK P Ls a n ∧ LsOK P Ls b (Nat.add n (loops a))
  | .cond _ a b, n => LsOK P Ls a n ∧ LsOK P Ls b (Nat.add n (loops a))
  | .block _ c, n => LsOK P Ls c n
  | .loop c, n => ∀ (β : Type) (e : Env) (K : Ex → Env → Option β) (r : β), Ls.run n e K = some r → ∃ x e', K x e' = some r ∧ GoesC P (.loop c) e x e'
  | _, _ => True
end
end Go.Rex

/-! Regions whose order is drawn. -/
set_option linter.unusedSimpArgs false
set_option linter.unusedVariables false
namespace Go.Rex

section
variable {P : Program} {G : Cfg} {ops : List Oper} {α : Type}

/-- Does the guard let it run? -/
def gOK (ops : List Oper) (o : Oper) (e : Env) : Option Bool := match o.guard with
  | none => some true
  | some (j, want) => match (nthL ops j).bind (·.dst) with
    | some g => match e.slot g with
      | .dt .bool b => some ((b : Bool) == want)
      | .ud => some false
      | _ => none
    | none => none
inductive Yld : OpRes → Sl → Roots → Prop
  | ok (s : Sl) (rs : Roots) : Yld (.ok true s rs) s rs
  | call (σ : Type) (y : σ) (f : σ → Option (Sl × Roots)) (s : Sl) (rs : Roots) (h : f y = some (s, rs)) : Yld (.call σ (some y) f) s rs

/-- One operation of a region as it was run. -/
structure X where
  i : Nat
  o : Oper
  F : Nat
  on : Bool
  s : Sl
  l : Log
def X.next (x : X) (e : Env) (rs : Roots) : Env := setE e x.o.dst x.s rs
structure Does (G : Cfg) (ops : List Oper) (x : X) (e : Env) (rs : Roots) : Prop where
  d : dOK e x.o.dst = true
  g : gOK ops x.o e = some x.on
  y : x.on = true → Fresh e x.F ∧ Yld (opRes G e.opd x.o.op e.ow x.F) x.s rs
  n : x.on = false → x.s = .ud ∧ rs = e.ow
structure Good (G : Cfg) (ops : List Oper) (x : X) (e : Env) (rs : Roots) : Prop where
  does : Does G ops x e rs
  eff : ∀ j, j ∉ x.l.wr → lk rs j = lk e.ow j
  wr : ∀ j ∈ x.l.wr, j ∈ x.l.fp
  loc : ∀ e' : Env, e'.nt = e.nt → (∀ t ∈ x.l.rd, e'.slot t = e.slot t) → (∀ j ∈ x.l.fp, lk e'.ow j = lk e.ow j) → (x.on = true → Fresh e' x.F) →
    ∃ rs', Does G ops x e' rs' ∧ (∀ j ∈ x.l.fp, lk rs' j = lk rs j) ∧ (∀ j, j ∉ x.l.fp → lk rs' j = lk e'.ow j)
structure XOK (x : X) : Prop where
  dst : x.l.dst = optL x.o.dst
  F : x.on = true → x.F ∈ x.l.wr
  refs : ∀ r ∈ x.s.refs, r ∈ x.l.fp
  rm : x.l.rm = maskL x.l.rd
  dm : x.l.dm = maskL x.l.dst

theorem slot_setE (e : Env) (d : Option Nat) (s : Sl) (rs : Roots) (t : Nat) : (setE e d s rs).slot t = if d = some t then s else e.slot t := by
  cases d with
  | none => simp [setE, Env.slot]
  | some d =>
    simp only [setE, slot_stt]
    by_cases h : t = d
    · subst h; rw [upd_same, if_pos rfl]
    · rw [upd_other _ _ _ h, if_neg (fun e => h (Option.some.inj e).symm)]
theorem ow_setE (e : Env) (d : Option Nat) (s : Sl) (rs : Roots) : (setE e d s rs).ow = rs := by cases d <;> rfl
theorem nt_setE (e : Env) (d : Option Nat) (s : Sl) (rs : Roots) : (setE e d s rs).nt = e.nt := by cases d <;> rfl
theorem ae_ext {e e' : Env} (h1 : ∀ t, e.slot t = e'.slot t) (h2 : ∀ j, lk e.ow j = lk e'.ow j) (h3 : e.nt = e'.nt) : e.ae = e'.ae := by
  unfold Env.ae
  rw [funext h1, funext h2, h3]
theorem ae_slot {e e' : Env} (h : e.ae = e'.ae) (t : Nat) : e.slot t = e'.slot t := congrFun (congrArg AE.S h) t
theorem ae_ow {e e' : Env} (h : e.ae = e'.ae) (j : Nat) : lk e.ow j = lk e'.ow j := congrFun (congrArg AE.O h) j
theorem ae_nt {e e' : Env} (h : e.ae = e'.ae) : e.nt = e'.nt := congrArg AE.nt h

theorem Good.at_ {x : X} {e e' : Env} {rs : Roots} (h : Good G ops x e rs) (h1 : e'.nt = e.nt) (h2 : ∀ t ∈ x.l.rd, e'.slot t = e.slot t) (h3 : ∀ j ∈ x.l.fp, lk e'.ow j = lk e.ow j) (h4 : x.on = true → Fresh e' x.F) :
    ∃ rs', Good G ops x e' rs' ∧ (∀ j ∈ x.l.fp, lk rs' j = lk rs j) ∧ (∀ j, j ∉ x.l.fp → lk rs' j = lk e'.ow j) := by
  obtain ⟨rs', g1, g2, g3⟩ := h.loc e' h1 h2 h3 h4
  refine ⟨rs', ⟨g1, fun j hj => ?_, h.wr, fun e2 k1 k2 k3 k4 => ?_⟩, g2, g3⟩
  · by_cases hf : j ∈ x.l.fp
    · rw [g2 j hf, h.eff j hj, h3 j hf]
    · exact g3 j hf
  · obtain ⟨rs2, q1, q2, q3⟩ := h.loc e2 (k1.trans h1) (fun t ht => (k2 t ht).trans (h2 t ht)) (fun j hj => (k3 j hj).trans (h3 j hj)) k4
    exact ⟨rs2, q1, fun j hj => (q2 j hj).trans (g2 j hj).symm, q3⟩

def Run (G : Cfg) (ops : List Oper) : Env → List X → Env → Prop
  | e, [], e' => e.ae = e'.ae
  | e, x :: L, e' => ∃ rs, Good G ops x e rs ∧ Run G ops (x.next e rs) L e'
theorem run_ae : ∀ (L : List X) {e1 e2 e' : Env}, e1.ae = e2.ae → Run G ops e1 L e' → Run G ops e2 L e'
  | [], e1, e2, e', h, hr => h.symm.trans hr
  | x :: L, e1, e2, e', h, ⟨rs, hg, hr⟩ => by
    obtain ⟨rs', g1, g2, g3⟩ := hg.at_ (e' := e2) (ae_nt h).symm (fun t _ => (ae_slot h t).symm) (fun j _ => (ae_ow h j).symm) (fun ho => by
      obtain ⟨⟨f1, f2⟩, _⟩ := hg.does.y ho
      exact ⟨fun s => by rw [← ae_slot h]; exact f1 s, by rw [← ae_ow h]; exact f2⟩)
    refine ⟨rs', g1, run_ae L (ae_ext (fun t => ?_) (fun j => ?_) ?_) hr⟩
    · simp only [X.next, slot_setE, ae_slot h]
    · simp only [X.next, ow_setE]
      by_cases hf : j ∈ x.l.fp
      · exact (g2 j hf).symm
      · rw [g3 j hf, ← ae_ow h]
        exact hg.eff j fun hw => hf (hg.wr j hw)
    · simp only [X.next, nt_setE]; exact ae_nt h

theorem memN_mem {i : Nat} : ∀ {l : List Nat}, i ∈ l → memN i l = true
  | j :: l, h => by
    simp only [memN, Bool.or_eq_true]
    rcases List.mem_cons.1 h with rfl | h
    · exact .inl (nbeq.2 rfl)
    · exact .inr (memN_mem h)
structure Apart (x y : Log) : Prop where
  dd : ∀ i ∈ x.dst, i ∉ y.dst
  dr : ∀ i ∈ x.dst, i ∉ y.rd
  rd : ∀ i ∈ y.dst, i ∉ x.rd
  wf : ∀ i ∈ x.wr, i ∉ y.fp
  fw : ∀ i ∈ y.wr, i ∉ x.fp
theorem maskL_bit (i : Nat) : ∀ l : List Nat, (maskL l).testBit i = true ↔ i ∈ l
  | [] => by simp [maskL]
  | k :: l => by
    have e : maskL (k :: l) = (1 <<< k) ||| maskL l := rfl
    rw [e, Nat.testBit_or, Bool.or_eq_true, maskL_bit i l, Nat.one_shiftLeft, Nat.testBit_two_pow, List.mem_cons]
    constructor
    · rintro (h | h)
      · exact .inl (of_decide_eq_true h).symm
      · exact .inr h
    · rintro (h | h)
      · exact .inl (decide_eq_true h.symm)
      · exact .inr h
theorem mask_not {a b : List Nat} {m n : Nat} (hm : m = maskL a) (hn : n = maskL b) (h : Nat.beq (Nat.land m n) 0 = true) : ∀ i ∈ a, i ∉ b := by
  intro i ha hb
  have h1 : m &&& n = 0 := nbeq.1 h
  have h2 : (m &&& n).testBit i = true := by
    rw [Nat.testBit_and, hm, hn, (maskL_bit i a).2 ha, (maskL_bit i b).2 hb]; rfl
  rw [h1] at h2
  simp at h2
theorem apart_ok {x y : Log} (h1 : x.rm = maskL x.rd) (h2 : x.dm = maskL x.dst) (h3 : y.rm = maskL y.rd) (h4 : y.dm = maskL y.dst) (h : apart x y = true) : Apart x y := by
  simp only [apart, Bool.and_eq_true] at h
  exact ⟨mask_not h2 h4 h.1, mask_not h2 h3 h.2.1, mask_not h4 h1 h.2.2.1, disj_not h.2.2.2.1, disj_not h.2.2.2.2⟩

theorem fresh_next {x : X} {e : Env} {rs : Roots} (hg : Good G ops x e rs) (hx : XOK x) {F : Nat} (hF : F ∉ x.l.fp) (h : Fresh e F) : Fresh (x.next e rs) F := by
  refine ⟨fun t => ?_, ?_⟩
  · simp only [X.next, slot_setE]
    split
    · exact fun hm => hF (hx.refs F hm)
    · exact h.1 t
  · simp only [X.next, ow_setE]
    rw [hg.eff F fun hw => hF (hg.wr F hw)]
    exact h.2

/-- Two operations that are apart may be run the other way round. -/
theorem swap {p o : X} {e : Env} {rs1 rs2 : Roots} (hp : Good G ops p e rs1) (ho : Good G ops o (p.next e rs1) rs2) (xp : XOK p) (xo : XOK o) (ha : Apart p.l o.l) (hF : o.on = true → Fresh e o.F) :
    ∃ rs1' rs2', Good G ops o e rs1' ∧ Good G ops p (o.next e rs1') rs2' ∧ (p.next (o.next e rs1') rs2').ae = (o.next (p.next e rs1) rs2).ae := by
  have hdp : ∀ d, p.o.dst = some d → d ∈ p.l.dst := fun d hd => by rw [xp.dst, hd]; simp [optL]
  have hdo : ∀ d, o.o.dst = some d → d ∈ o.l.dst := fun d hd => by rw [xo.dst, hd]; simp [optL]
  have ow1 : (p.next e rs1).ow = rs1 := ow_setE _ _ _ _
  obtain ⟨rs1', g1, g2, g3⟩ := ho.at_ (e' := e) (nt_setE _ _ _ _).symm (fun t ht => by
    simp only [X.next, slot_setE]
    rw [if_neg (fun h => ha.dr t (hdp t h) ht)]) (fun j hj => by
    rw [ow1, hp.eff j fun hw => ha.wf j hw hj]) hF
  have ow2 : (o.next e rs1').ow = rs1' := ow_setE _ _ _ _
  obtain ⟨rs2', k1, k2, k3⟩ := hp.at_ (e' := o.next e rs1') (nt_setE _ _ _ _) (fun t ht => by
    simp only [X.next, slot_setE]
    rw [if_neg (fun h => ha.rd t (hdo t h) ht)]) (fun j hj => by
    rw [ow2, g1.eff j fun hw => ha.fw j hw hj]) (fun hon => by
    have hFp := xp.F hon
    exact fresh_next g1 xo (ha.wf _ hFp) (hp.does.y hon).1)
  refine ⟨rs1', rs2', g1, k1, ae_ext (fun t => ?_) (fun j => ?_) ?_⟩
  · simp only [X.next, slot_setE]
    by_cases h1 : p.o.dst = some t
    · rw [if_pos h1, if_neg (fun h2 => ha.dd t (hdp t h1) (hdo t h2)), if_pos h1]
    · rw [if_neg h1, if_neg h1]
  · rw [show (p.next (o.next e rs1') rs2').ow = rs2' from ow_setE _ _ _ _, show (o.next (p.next e rs1) rs2).ow = rs2 from ow_setE _ _ _ _]
    by_cases hjp : j ∈ p.l.fp
    · rw [k2 j hjp, ho.eff j fun hw => ha.fw j hw hjp, ow1]
    · rw [k3 j hjp, ow2]
      by_cases hjo : j ∈ o.l.fp
      · exact g2 j hjo
      · rw [g3 j hjo, ho.eff j fun hw => hjo (ho.wr j hw), ow1, hp.eff j fun hw => hjp (hp.wr j hw)]
  · simp only [X.next, nt_setE]

/-- One operation comes to the front. -/
theorem bubble {x : X} {B : List X} {e' : Env} (xx : XOK x) : ∀ (A : List X) (e : Env), Run G ops e (A ++ x :: B) e' → (∀ y ∈ A, XOK y) → (∀ y ∈ A, Apart y.l x.l ∧ (x.on = true → x.F ∉ y.l.fp)) → (x.on = true → Fresh e x.F) → Run G ops e (x :: (A ++ B)) e'
  | [], e, h, _, _, _ => h
  | y :: A, e, ⟨rs, hg, hr⟩, hA, hap, hf => by
    have hy := hap y (by simp)
    obtain ⟨rs2, g2, r2⟩ := bubble xx A (y.next e rs) hr (fun z hz => hA z (by simp [hz])) (fun z hz => hap z (by simp [hz])) (fun hon => fresh_next hg (hA y (by simp)) (hy.2 hon) (hf hon))
    obtain ⟨rs1', rs2', k1, k2, k3⟩ := swap hg g2 (hA y (by simp)) xx hy.1 hf
    exact ⟨rs1', k1, rs2', k2, run_ae _ k3.symm r2⟩

/-! ### Ancestors -/
def predsOf (ops : List Oper) (i : Nat) : List Nat := (nthL (ords ops []) i).getD []
theorem addL_eq {β : Type} : ∀ (l : List β) (x : β), addL l x = l ++ [x]
  | [], x => rfl
  | y :: l, x => by simp [addL, addL_eq l x]
theorem edgesOf_mem {acc : List (List Nat)} {j : Nat} : ∀ {es : List Edge}, j ∈ edgesOf acc es → ∃ ed ∈ es, Region.binds .any ed = true ∧ (j = ed.on ∨ j ∈ (nthL acc ed.on).getD [])
  | [], h => by simp [edgesOf] at h
  | ed :: es, h => by
    simp only [edgesOf] at h
    cases hb : Region.binds .any ed <;> rw [hb] at h
    · obtain ⟨e2, h1, h2⟩ := edgesOf_mem h
      exact ⟨e2, by simp [h1], h2⟩
    · simp only [cond_true, appL_eq, List.mem_cons, List.mem_append] at h
      rcases h with h | h | h
      · exact ⟨ed, by simp, hb, .inl h⟩
      · exact ⟨ed, by simp, hb, .inr h⟩
      · obtain ⟨e2, h1, h2⟩ := edgesOf_mem h
        exact ⟨e2, by simp [h1], h2⟩
theorem ords_old : ∀ (l : List Oper) (acc : List (List Nat)) (i : Nat), i < acc.length → (ords l acc)[i]? = acc[i]?
  | [], acc, i, h => rfl
  | o :: l, acc, i, h => by
    simp only [ords, addL_eq]
    rw [ords_old l _ i (by simp; omega), List.getElem?_append_left h]
theorem ords_new : ∀ (l : List Oper) (acc : List (List Nat)) (k : Nat) (o : Oper), l[k]? = some o → ∃ acc' : List (List Nat), acc'.length = acc.length + k ∧ (∀ i, i < acc'.length → (ords l acc)[i]? = acc'[i]?) ∧ (ords l acc)[acc.length + k]? = some (edgesOf acc' o.after.toList)
  | [], acc, k, o, h => by simp at h
  | o' :: l, acc, 0, o, h => by
    simp only [List.getElem?_cons_zero, Option.some.injEq] at h
    subst h
    refine ⟨acc, by simp, fun i hi => ?_, ?_⟩
    · exact ords_old (o' :: l) acc i hi
    · simp only [ords, addL_eq]
      rw [ords_old l _ _ (by simp)]
      simp
  | o' :: l, acc, k + 1, o, h => by
    rw [List.getElem?_cons_succ] at h
    obtain ⟨acc', h1, h2, h3⟩ := ords_new l (acc ++ [edgesOf acc o'.after.toList]) k o h
    simp only [List.length_append, List.length_singleton] at h1 h3
    refine ⟨acc', by omega, fun i hi => ?_, ?_⟩
    · simp only [ords, addL_eq]; exact h2 i hi
    · simp only [ords, addL_eq]
      rw [show acc.length + (k + 1) = acc.length + 1 + k by omega]; exact h3
theorem preds_step {i j : Nat} (h : j ∈ predsOf ops i) : ∃ o, ops[i]? = some o ∧ ∃ ed ∈ o.after.toList, Region.binds .any ed = true ∧ (j = ed.on ∨ (ed.on < i ∧ j ∈ predsOf ops ed.on)) := by
  unfold predsOf at h ⊢
  rw [nthL_eq] at h
  cases ho : ops[i]? with
  | none =>
    have hlen : ∀ (l : List Oper) (acc : List (List Nat)), (ords l acc).length = acc.length + l.length := fun l => by
      induction l with
      | nil => intro acc; rfl
      | cons o l ih => intro acc; simp only [ords, addL_eq, ih]; simp; omega
    have : (ords ops [])[i]? = none := by
      rw [List.getElem?_eq_none]
      rw [hlen]
      have := List.getElem?_eq_none_iff.1 ho
      simpa using this
    rw [this] at h
    simp at h
  | some o =>
    obtain ⟨acc', h1, h2, h3⟩ := ords_new ops [] i o ho
    simp only [List.length_nil, Nat.zero_add] at h1 h3
    rw [h3] at h
    obtain ⟨ed, k1, k2, k3⟩ := edgesOf_mem h
    refine ⟨o, rfl, ed, k1, k2, k3.imp id fun hj => ?_⟩
    rw [nthL_eq] at hj ⊢
    by_cases hlt : ed.on < i
    · refine ⟨hlt, ?_⟩
      rw [h2 _ (by omega)]; exact hj
    · rw [List.getElem?_eq_none (by omega)] at hj
      simp at hj

/-! ### One operation, on the machine -/
theorem does_goes {opsA : Array Oper} (hG : CfgOK P G) {x : X} {e : Env} {rs : Roots} (h : Does G opsA.toList x e rs) : GoesG P opsA x.o e (x.next e rs) := by
  intro Γ a w hst next Q hn
  have hw : Region.wanted x.o (yielded opsA a.tmps) = x.on := by
    have hg := h.g
    unfold gOK at hg
    unfold Region.wanted
    split at hg
    · rename_i hgd
      simp only [Option.some.injEq] at hg
      simp only [hgd, hg]
    · rename_i j want hgd
      simp only [hgd]
      split at hg
      · rename_i g hj
        split at hg
        · rename_i b hs
          rw [yielded_slot hst hj hs]
          simp only [Option.some.injEq] at hg
          rw [← hg]
          cases b <;> cases want <;> rfl
        · rename_i hs
          rw [yielded_ud hst hj hs]
          simp only [Option.some.injEq] at hg
          rw [← hg]; rfl
        · simp at hg
      · simp at hg
  rw [hw]
  cases hon : x.on
  · simp only [Bool.false_eq_true, if_false]
    obtain ⟨h1, h2⟩ := h.n hon
    have := hn _ _ (by
      have := St.un hst x.o.dst h.d
      have e0 : (unE e x.o.dst).ae = (x.next e rs).ae := by
        refine ae_ext (fun t => ?_) (fun j => ?_) ?_
        · rw [show (x.next e rs).slot t = _ from slot_setE _ _ _ _ _, h1]
          cases hd : x.o.dst with
          | none => simp [unE]
          | some d =>
            simp only [unE, putE, slot_stt]
            by_cases ht : t = d
            · subst ht; rw [upd_same, if_pos rfl]
            · rw [upd_other _ _ _ ht, if_neg (fun e => ht (Option.some.inj e).symm)]
        · rw [show (x.next e rs).ow = rs from ow_setE _ _ _ _, h2]
          cases x.o.dst <;> rfl
        · rw [show (x.next e rs).nt = e.nt from nt_setE _ _ _ _]
          cases x.o.dst <;> rfl
      rw [e0] at this
      exact this)
    exact this
  · simp only [if_true]
    obtain ⟨hF, hy⟩ := h.y hon
    have hgood := opRes_good hG hst h.d hF
    generalize opRes G e.opd x.o.op e.ow x.F = R at hy hgood
    unfold X.next at hn
    generalize hs : x.s = s at hy hn
    cases hy with
    | ok s rs => exact hgood rfl next Q hn
    | call σ y f s rs hf => exact hgood y s rs rfl hf next Q hn

theorem st_drew {Γ : Ctx} {E : AE} {a : Act} {w : World} (h : St Γ E a w) (n : Nat) : St Γ E a { w with drawn := n } := by
  obtain ⟨cs, bs, hx⟩ := h.x
  have hp := hx.p
  have := hx.next (O' := E.O) (w' := { w with drawn := n }) (cs' := cs) (bs' := bs) ⟨fun r R hR => Rep.frame (w := w) (w' := { w with drawn := n }) (fun b hb _ => ⟨hb, rfl⟩) _ _ _ _ _ (fun _ _ => rfl) (hp.rep r R hR), hp.nodup, hp.sep, hp.own, hp.ext.drew n⟩
    (fun b hb _ => ⟨hb, rfl⟩) (fun s r _ R' hR' => ⟨R', hR', Kept.refl _, rfl, fun _ _ _ => rfl⟩)
  exact this.st

/-! ### All orders -/
structure Inv (opsA : Array Oper) (listed : Array Bool) (L : List X) (e : Env) : Prop where
  size : listed.size = opsA.size
  mem : ∀ i, i < opsA.size → (listed.getD i true = false ↔ ∃ x ∈ L, x.i = i)
  at_ : ∀ x ∈ L, opsA[x.i]? = some x.o ∧ XOK x ∧ (x.on = true → Fresh e x.F)
  pw : L.Pairwise fun x y => x.i < y.i ∧ (y.on = true → y.F ∉ x.l.fp) ∧ (x.i ∈ predsOf opsA.toList y.i ∨ Apart x.l y.l)
  down : ∀ (i : Nat) (o : Oper) (ed : Edge), listed.getD i false = true → opsA[i]? = some o → ed ∈ o.after → Region.binds .any ed = true → listed.getD ed.on false = true

theorem getD_flip {l : Array Bool} {i : Nat} (hi : i < l.size) : l.getD i true = l.getD i false := by
  simp [Array.getD, hi]
theorem any_of_run (hG : CfgOK P G) {opsA : Array Oper} {Q : Exit → Act → World → Prop} (low : ∀ (i : Nat) (o : Oper) (ed : Edge), opsA[i]? = some o → ed ∈ o.after → Region.binds .any ed = true → ed.on < i) {e' : Env} :
    ∀ (n : Nat) (listed : Array Bool) (L : List X) (e : Env), Inv opsA listed L e → L.length ≤ n → Run G opsA.toList e L e' → ∀ (Γ : Ctx) (a : Act) (w : World), St Γ e.ae a w → (∀ a' w', St Γ e'.ae a' w' → Q .normal a' w') → wpAny P .any opsA Q n listed a w := by
  intro n
  have hready : ∀ (listed : Array Bool) (L : List X) (e : Env), Inv opsA listed L e → Region.ready .any opsA listed = [] → L = [] := fun listed L e hi hr => by
    cases L with
    | nil => rfl
    | cons x L =>
      exfalso
      obtain ⟨ha, hx, _⟩ := hi.at_ x (by simp)
      have hlt := (Array.getElem?_eq_some_iff.1 ha).1
      have : x.i ∈ Region.ready .any opsA listed := by
        rw [mem_ready]
        refine ⟨(hi.mem x.i hlt).2 ⟨x, by simp, rfl⟩, x.o, ha, fun ed hed hb => ?_⟩
        have hlow := low x.i x.o ed ha hed hb
        have hlt' : ed.on < opsA.size := by omega
        cases hl : listed.getD ed.on false with
        | true => rfl
        | false =>
          have := (hi.mem ed.on hlt').1 (by rw [getD_flip (by rw [hi.size]; exact hlt')]; exact hl)
          obtain ⟨y, hy, hyi⟩ := this
          rcases List.mem_cons.1 hy with rfl | hy
          · omega
          · have := ((List.pairwise_cons.1 hi.pw).1 y hy).1
            omega
      rw [hr] at this
      simp at this
  induction n with
  | zero =>
    intro listed L e hi hn hrun Γ a w hst hq
    have : L = [] := List.length_eq_zero_iff.1 (by omega)
    subst this
    refine ⟨?_, hq a w (by rw [← show e.ae = e'.ae from hrun]; exact hst)⟩
    refine List.eq_nil_iff_forall_not_mem.2 fun j hj => ?_
    rw [mem_ready] at hj
    obtain ⟨h1, o, ho, _⟩ := hj
    obtain ⟨y, hy, _⟩ := (hi.mem j (Array.getElem?_eq_some_iff.1 ho).1).1 h1
    simp at hy
  | succ n ih =>
    intro listed L e hi hn hrun Γ a w hst hq
    refine ⟨fun hr => ?_, fun i hri => ?_⟩
    · have := hready listed L e hi hr
      subst this
      exact hq a w (by rw [← show e.ae = e'.ae from hrun]; exact hst)
    · rw [mem_ready] at hri
      obtain ⟨h1, o, ho, hedges⟩ := hri
      have hlt := (Array.getElem?_eq_some_iff.1 ho).1
      obtain ⟨x, hx, rfl⟩ := (hi.mem i hlt).1 h1
      obtain ⟨A, B, rfl⟩ := List.append_of_mem hx
      obtain ⟨hxo, xx, hxF⟩ := hi.at_ x (by simp)
      rw [ho] at hxo
      obtain rfl := Option.some.inj hxo
      have anc : ∀ (m i : Nat), i < m → (∀ o ed, opsA[i]? = some o → ed ∈ o.after → Region.binds .any ed = true → listed.getD ed.on false = true) → ∀ j ∈ predsOf opsA.toList i, listed.getD j false = true := by
        intro m
        induction m with
        | zero => intro i h; omega
        | succ m ihm =>
          intro i him hd j hj
          obtain ⟨o, k1, ed, k2, k3, k4⟩ := preds_step hj
          rw [Array.getElem?_toList] at k1
          have hl := hd o ed k1 (Array.mem_toList_iff.1 k2) k3
          rcases k4 with rfl | ⟨k4, k5⟩
          · exact hl
          · exact ihm ed.on (by omega) (fun o2 ed2 q1 q2 q3 => hi.down ed.on o2 ed2 hl q1 q2 q3) j k5
      have hanc := anc (x.i + 1) x.i (by omega) (fun o2 ed q1 q2 q3 => by
        rw [ho] at q1
        obtain rfl := Option.some.inj q1
        exact hedges ed q2 q3)
      have hpw := List.pairwise_append.1 hi.pw
      have hA : ∀ y ∈ A, Apart y.l x.l ∧ (x.on = true → x.F ∉ y.l.fp) := fun y hy => by
        obtain ⟨p1, p2, p3⟩ := hpw.2.2 y hy x (by simp)
        refine ⟨p3.resolve_left fun hm => ?_, p2⟩
        have h2 := hanc y.i hm
        obtain ⟨hyo, _⟩ := hi.at_ y (by simp [hy])
        have hylt := (Array.getElem?_eq_some_iff.1 hyo).1
        have h3 := (hi.mem y.i hylt).2 ⟨y, by simp [hy], rfl⟩
        rw [getD_flip (by rw [hi.size]; exact hylt), h2] at h3
        simp at h3
      obtain ⟨rs, hg, hr⟩ := bubble xx A e hrun (fun y hy => (hi.at_ y (by simp [hy])).2.1) hA hxF
      have hB : ∀ y ∈ B, x.i < y.i ∧ (y.on = true → y.F ∉ x.l.fp) := fun y hy => by
        have := (List.pairwise_cons.1 hpw.2.1).1 y hy
        exact ⟨this.1, this.2.1⟩
      have hAi : ∀ y ∈ A, y.i < x.i := fun y hy => (hpw.2.2 y hy x (by simp)).1
      have hinv : Inv opsA (listed.setIfInBounds x.i true) (A ++ B) (x.next e rs) := by
        refine ⟨by rw [Array.size_setIfInBounds]; exact hi.size, fun j hj => ?_, fun y hy => ?_, ?_, fun j o2 ed q1 q2 q3 q4 => ?_⟩
        · by_cases hij : x.i = j
          · subst hij
            constructor
            · intro h
              have : (listed.setIfInBounds x.i true).getD x.i true = true := by
                simp [Array.getD]
              rw [this] at h; simp at h
            · rintro ⟨y, hy, hyi⟩
              rcases List.mem_append.1 hy with hy | hy
              · have := hAi y hy; omega
              · have := (hB y hy).1; omega
          · rw [getD_set_ne true hij, hi.mem j hj]
            constructor
            · rintro ⟨y, hy, hyi⟩
              refine ⟨y, ?_, hyi⟩
              simp only [List.mem_append, List.mem_cons] at hy ⊢
              rcases hy with hy | rfl | hy
              · exact .inl hy
              · exact absurd hyi hij
              · exact .inr hy
            · rintro ⟨y, hy, hyi⟩
              refine ⟨y, ?_, hyi⟩
              simp only [List.mem_append, List.mem_cons] at hy ⊢
              rcases hy with hy | hy
              · exact .inl hy
              · exact .inr (.inr hy)
        · have hy' : y ∈ A ++ x :: B := by
            simp only [List.mem_append, List.mem_cons] at hy ⊢
            rcases hy with hy | hy
            · exact .inl hy
            · exact .inr (.inr hy)
          obtain ⟨q1, q2, q3⟩ := hi.at_ y hy'
          refine ⟨q1, q2, fun hon => fresh_next hg xx ?_ (q3 hon)⟩
          rcases List.mem_append.1 hy with hy | hy
          · exact (hA y hy).1.wf _ (q2.F hon)
          · exact (hB y hy).2 hon
        · refine List.pairwise_append.2 ⟨hpw.1, (List.pairwise_cons.1 hpw.2.1).2, fun y hy z hz => hpw.2.2 y hy z (by simp [hz])⟩
        · by_cases hij : x.i = j
          · subst hij
            rw [ho] at q2
            obtain rfl := Option.some.inj q2
            exact getD_set_true (hedges ed q3 q4)
          · rw [getD_set_ne false hij] at q1
            exact getD_set_true (hi.down j o2 ed q1 q2 q3 q4)
      unfold wpOp
      rw [ho]
      have hgo := does_goes hG hg.does Γ a w hst (wpAny P .any opsA Q n (listed.setIfInBounds x.i true)) Q fun a' w' hst' => ih _ _ _ hinv (by simp at hn ⊢; omega) hr Γ a' w' hst' hq
      by_cases hw : Region.wanted x.o (yielded opsA a.tmps) = true
      · simp only [hw, if_true] at hgo ⊢; exact .inl hgo
      · simp only [hw] at hgo ⊢; exact hgo
end
end Go.Rex

/-! Regions whose order is drawn: from the run in the order of the text to all orders. -/
set_option linter.unusedSimpArgs false
set_option linter.unusedVariables false
namespace Go.Rex

section
variable {P : Program} {G : Cfg} {ops : List Oper} {α : Type}

theorem inLogs_not {F : Nat} : ∀ {l : List Log}, inLogs F l = false → ∀ y ∈ l, F ∉ y.fp
  | [], _, y, hy => by simp at hy
  | x :: l, h, y, hy => by
    simp only [inLogs, Bool.or_eq_false_iff] at h
    rcases List.mem_cons.1 hy with rfl | hy
    · exact memN_false h.1
    · exact inLogs_not h.2 y hy
theorem pickD_sound {e0 e : Env} {log : List Log} {K : Nat → Option α} {r : α} : ∀ (n d : Nat), pickD e0 e log K n d = some r → ∃ F, Fresh e F ∧ Fresh e0 F ∧ (∀ y ∈ log, F ∉ y.fp) ∧ K F = some r
  | 0, d, h => by simp [pickD] at h
  | n + 1, d, h => by
    simp only [pickD] at h
    cases hf : (freshAt e d && (freshAt e0 d && nott (inLogs d log))) <;> rw [hf] at h
    · simp only [cond_false, forceNat_eq] at h; exact pickD_sound n _ h
    · simp only [Bool.and_eq_true] at hf
      exact ⟨d, freshAt_ok hf.1, freshAt_ok hf.2.1, inLogs_not (nott_eq hf.2.2), h⟩
theorem forceN_eq : ∀ (l : List Nat) (K : List Nat → Option α), forceN l K = K l
  | [], K => rfl
  | x :: l, K => by simp only [forceN, forceN_eq l]
def masks : List Oper → List Nat → List Nat
  | [], acc => acc
  | o :: l, acc => masks l (addL acc (predMask acc o.after.toList))
theorem ordsM_eq : ∀ (l : List Oper) (acc : List Nat) (K : List Nat → Option α), ordsM l acc K = K (masks l acc)
  | [], acc, K => rfl
  | o :: l, acc, K => by simp only [ordsM, forceNat_eq, forceN_eq, masks, ordsM_eq l]
/-- The bits say no more than the lists. -/
def Bits (ms : List Nat) (ls : List (List Nat)) : Prop := ms.length = ls.length ∧ ∀ i j, bitOf ((nthL ms i).getD 0) j = true → j ∈ (nthL ls i).getD []
theorem bitOf_lor (a b j : Nat) : bitOf (Nat.lor a b) j = true → bitOf a j = true ∨ bitOf b j = true := by
  intro h
  have h1 := nbeq.1 h
  have e : ∀ m, Nat.land 1 (Nat.shiftRight m j) = (m.testBit j).toNat := fun m => by
    have : Nat.land 1 (Nat.shiftRight m j) = 1 &&& (m >>> j) := rfl
    rw [this, Nat.one_and_eq_mod_two, Nat.testBit_eq_decide_div_mod_eq, Nat.shiftRight_eq_div_pow]
    rcases Nat.mod_two_eq_zero_or_one (m / 2 ^ j) with h | h <;> simp [h]
  rw [e] at h1
  have h2 : (Nat.lor a b).testBit j = true := by
    cases hb : (Nat.lor a b).testBit j
    · rw [hb] at h1; simp at h1
    · rfl
  have h3 : (a ||| b).testBit j = true := h2
  rw [Nat.testBit_or, Bool.or_eq_true] at h3
  rcases h3 with h3 | h3
  · exact .inl (nbeq.2 (by rw [e, h3]; rfl))
  · exact .inr (nbeq.2 (by rw [e, h3]; rfl))
theorem bitOf_one (k j : Nat) (h : bitOf (Nat.shiftLeft 1 k) j = true) : j = k := by
  have h1 := nbeq.1 h
  have e : Nat.land 1 (Nat.shiftRight (Nat.shiftLeft 1 k) j) = ((1 <<< k).testBit j).toNat := by
    have : Nat.land 1 (Nat.shiftRight (Nat.shiftLeft 1 k) j) = 1 &&& ((1 <<< k) >>> j) := rfl
    rw [this, Nat.one_and_eq_mod_two, Nat.testBit_eq_decide_div_mod_eq, Nat.shiftRight_eq_div_pow]
    rcases Nat.mod_two_eq_zero_or_one (1 <<< k / 2 ^ j) with h | h <;> simp [h]
  rw [e] at h1
  have h2 : (1 <<< k).testBit j = true := by
    cases hb : (1 <<< k).testBit j
    · rw [hb] at h1; simp at h1
    · rfl
  rw [Nat.one_shiftLeft, Nat.testBit_two_pow] at h2
  exact (of_decide_eq_true h2).symm
theorem bitOf_zero (j : Nat) : bitOf 0 j = false := by
  unfold bitOf
  have : Nat.shiftRight 0 j = 0 := Nat.zero_shiftRight j
  rw [this]; rfl
theorem predMask_mem {ms : List Nat} {ls : List (List Nat)} (h : Bits ms ls) {j : Nat} : ∀ (es : List Edge), bitOf (predMask ms es) j = true → j ∈ edgesOf ls es
  | [], hb => by rw [predMask, bitOf_zero] at hb; simp at hb
  | e :: es, hb => by
    simp only [predMask, edgeBinds_eq] at hb
    simp only [edgesOf]
    cases hbd : Region.binds .any e <;> rw [hbd] at hb
    · exact predMask_mem h es hb
    · simp only [cond_true, appL_eq, List.mem_cons, List.mem_append] at hb ⊢
      rcases bitOf_lor _ _ _ hb with hb | hb
      · rcases bitOf_lor _ _ _ hb with hb | hb
        · exact .inl (bitOf_one _ _ hb)
        · exact .inr (.inl (h.2 _ _ hb))
      · exact .inr (.inr (predMask_mem h es hb))
theorem masks_bits : ∀ (l : List Oper) (ms : List Nat) (ls : List (List Nat)), Bits ms ls → Bits (masks l ms) (ords l ls)
  | [], ms, ls, h => h
  | o :: l, ms, ls, h => by
    simp only [masks, ords, addL_eq]
    refine masks_bits l _ _ ⟨by simp [h.1], fun i j hb => ?_⟩
    rw [nthL_eq] at hb ⊢
    by_cases hi : i < ms.length
    · rw [List.getElem?_append_left hi] at hb
      rw [List.getElem?_append_left (by rw [← h.1]; exact hi)]
      have := h.2 i j (by rw [nthL_eq]; exact hb)
      rw [nthL_eq] at this; exact this
    · by_cases hi2 : i = ms.length
      · subst hi2
        rw [List.getElem?_append_right (Nat.le_refl _)] at hb
        rw [List.getElem?_append_right (by rw [h.1]; exact Nat.le_refl _), ← h.1]
        simp at hb ⊢
        exact predMask_mem h _ hb
      · rw [List.getElem?_eq_none (by simp; omega)] at hb
        simp only [Option.getD_none, bitOf_zero] at hb
        simp at hb
def lgOf (ops : List Oper) (o : Oper) (i F : Nat) (e : Env) (s : Sl) (rs : Roots) : Log :=
  ⟨i, guardSlots ops o ++ opTmps (opsOf o.op), optL o.dst, F :: (s.refs ++ refsOf e (opTmps (opsOf o.op))), F :: changed e.ow rs (F :: (s.refs ++ refsOf e (opTmps (opsOf o.op)))), maskL (guardSlots ops o ++ opTmps (opsOf o.op)), maskL (optL o.dst)⟩
theorem logK_eq (o : Oper) (i F : Nat) (e : Env) (s : Sl) (rs : Roots) (log : List Log) (K : List Log → Option α) : logK ops o i F e s rs log K = K (lgOf ops o i F e s rs :: log) := by
  simp only [logK, forceN_eq, forceNat_eq, appL_eq, lgOf]
theorem changed_not {rs rs' : Roots} {j : Nat} : ∀ {l : List Nat}, j ∈ l → j ∉ changed rs rs' l → verOf rs j = verOf rs' j
  | [], h, _ => by simp at h
  | r :: l, h, hn => by
    simp only [changed] at hn
    cases hb : Nat.beq (verOf rs r) (verOf rs' r) <;> rw [hb] at hn
    · simp only [cond_false, List.mem_cons, not_or] at hn
      rcases List.mem_cons.1 h with h | h
      · exact absurd h hn.1
      · exact changed_not h hn.2
    · simp only [cond_true] at hn
      rcases List.mem_cons.1 h with rfl | h
      · exact nbeq.1 hb
      · exact changed_not h hn
theorem changed_sub {rs rs' : Roots} {j : Nat} : ∀ {l : List Nat}, j ∈ changed rs rs' l → j ∈ l
  | [], h => by simp [changed] at h
  | r :: l, h => by
    simp only [changed] at h
    cases hb : Nat.beq (verOf rs r) (verOf rs' r) <;> rw [hb] at h
    · rcases List.mem_cons.1 h with rfl | h
      · simp
      · simp [changed_sub h]
    · simp [changed_sub h]
theorem refsOf_mem {e : Env} {t r : Nat} : ∀ {l : List Nat}, t ∈ l → r ∈ (e.slot t).refs → r ∈ refsOf e l
  | [], h, _ => by simp at h
  | s :: l, h, hr => by
    simp only [refsOf, appL_eq, List.mem_append]
    rcases List.mem_cons.1 h with rfl | h
    · exact .inl hr
    · exact .inr (refsOf_mem h hr)
theorem opTmps_mem {t : Nat} : ∀ {l : List Operand}, .tmp t ∈ l → t ∈ opTmps l
  | [], h => by simp at h
  | x :: l, h => by
    rcases List.mem_cons.1 h with rfl | h
    · simp [opTmps]
    · have := opTmps_mem h
      cases x <;> simp [opTmps, this]
theorem constSl_refs (v : Value) : (constSl v).refs = [] := by unfold constSl; split <;> rfl
theorem yld_sim {F : Nat} {J : List Nat} {r0 r0' rs : Roots} {A B : OpRes} {s : Sl} (hy : Yld A s rs) (hs : Sim F J r0 r0' A B) : ∃ rs', Yld B s rs' ∧ Fn F J r0 rs r0' rs' := by
  cases hy with
  | ok s rs =>
    cases hs with
    | ok c s rs1 rs1' h => exact ⟨rs1', .ok _ _, h⟩
  | call σ y f s rs hf =>
    cases hs with
    | call σ x f f' h =>
      rcases h y with ⟨h1, _⟩ | ⟨s', r1, r1', h1, h2, h3⟩
      · rw [hf] at h1; simp at h1
      · rw [hf] at h1
        simp only [Option.some.injEq, Prod.mk.injEq] at h1
        obtain ⟨rfl, rfl⟩ := h1
        exact ⟨r1', .call _ _ _ _ _ h2, h3⟩
theorem way_ver {rs rs1 : Roots} {j : Nat} (hw : Way (lk rs j) (lk rs1 j)) (hv : verOf rs j = verOf rs1 j) : lk rs1 j = lk rs j := by
  unfold verOf at hv
  cases h : lk rs j with
  | none => rw [h] at hw; exact hw
  | some R =>
    rw [h] at hw hv
    rcases hw with h1 | h1 | ⟨R', h1, hlt⟩
    · exact h1
    · rw [h1] at hv; simp at hv
    · rw [h1] at hv; simp only [Nat.succ.injEq] at hv; omega
theorem gOK_congr {o : Oper} {e e' : Env} (h : ∀ t ∈ guardSlots ops o, e'.slot t = e.slot t) : gOK ops o e' = gOK ops o e := by
  unfold gOK
  unfold guardSlots at h
  cases hg : o.guard with
  | none => rfl
  | some q =>
    obtain ⟨j, want⟩ := q
    rw [hg] at h
    dsimp only at h ⊢
    cases hj : (nthL ops j).bind (·.dst) with
    | none => rfl
    | some g =>
      rw [hj] at h
      dsimp only at h ⊢
      rw [h g (by simp)]
theorem dOK_congr {e e' : Env} (h : e'.nt = e.nt) (d : Option Nat) : dOK e' d = dOK e d := by
  unfold dOK; rw [h]

theorem good_on {o : Oper} (i : Nat) {F : Nat} {e : Env} {s : Sl} {rs : Roots} (hd : dOK e o.dst = true) (hg : gOK ops o e = some true) (hF : Fresh e F) (hy : Yld (opRes G e.opd o.op e.ow F) s rs) :
    Good G ops ⟨i, o, F, true, s, lgOf ops o i F e s rs⟩ e rs ∧ XOK ⟨i, o, F, true, s, lgOf ops o i F e s rs⟩ := by
  have hJ : ∀ x ∈ opsOf o.op, ∀ r ∈ (e.opd x).refs, r ∈ (lgOf ops o i F e s rs).fp := fun x hx r hr => by
    cases x with
    | tmp t =>
      have := refsOf_mem (opTmps_mem hx) hr
      simp [lgOf, this]
    | const v => rw [show (e.opd (.const v)).refs = [] from constSl_refs v] at hr; simp at hr
    | func f => simp [Env.opd, Sl.refs] at hr
    | global g => simp [Env.opd, Sl.refs] at hr
  have hFJ : F ∈ (lgOf ops o i F e s rs).fp := by simp [lgOf]
  obtain ⟨rs0, _, hfn⟩ := yld_sim hy (opRes_loc1 (J := (lgOf ops o i F e s rs).fp) (rs := e.ow) (rs' := e.ow) (fun j _ => rfl) hFJ hF.2 hF.2 G e.opd o.op hJ)
  refine ⟨⟨⟨hd, hg, fun _ => ⟨hF, hy⟩, fun h => by simp at h⟩, fun j hj => ?_, fun j hj => ?_, fun e' h1 h2 h3 h4 => ?_⟩, ⟨rfl, fun _ => by simp [lgOf], fun r hr => by simp only [lgOf, List.mem_cons, List.mem_append]; exact .inr (.inl hr), rfl, rfl⟩⟩
  · have hjw : j ≠ F ∧ j ∉ changed e.ow rs (lgOf ops o i F e s rs).fp := by
      simpa [lgOf] using hj
    by_cases hf : j ∈ (lgOf ops o i F e s rs).fp
    · exact way_ver (hfn.bm j hjw.1) (changed_not hf hjw.2)
    · exact hfn.off j hf
  · have : j = F ∨ j ∈ changed e.ow rs (lgOf ops o i F e s rs).fp := by simpa [lgOf] using hj
    rcases this with rfl | h
    · exact hFJ
    · exact changed_sub h
  · have hopd : ∀ x ∈ opsOf o.op, e.opd x = e'.opd x := fun x hx => by
      cases x with
      | tmp t => exact (h2 t (by simp only [lgOf, List.mem_append]; exact .inr (opTmps_mem hx))).symm
      | const v => rfl
      | func f => rfl
      | global g => rfl
    have hF' := h4 rfl
    obtain ⟨rs', hy', hfn'⟩ := yld_sim hy (opRes_loc1 (J := (lgOf ops o i F e s rs).fp) (rs := e.ow) (rs' := e'.ow) (fun j hj => (h3 j hj).symm) hFJ hF.2 hF'.2 G e.opd o.op hJ)
    rw [opRes_congr o.op hopd] at hy'
    refine ⟨rs', ⟨by rw [dOK_congr h1]; exact hd, ?_, fun _ => ⟨hF', hy'⟩, fun h => by simp at h⟩, fun j hj => (hfn'.on j hj).symm, hfn'.off'⟩
    rw [gOK_congr fun t ht => h2 t (by simp only [lgOf, List.mem_append]; exact .inl ht)]
    exact hg
theorem good_off {o : Oper} (i : Nat) {e : Env} (hd : dOK e o.dst = true) (hg : gOK ops o e = some false) :
    Good G ops ⟨i, o, 0, false, .ud, ⟨i, guardSlots ops o, optL o.dst, [], [], maskL (guardSlots ops o), maskL (optL o.dst)⟩⟩ e e.ow ∧ XOK ⟨i, o, 0, false, .ud, ⟨i, guardSlots ops o, optL o.dst, [], [], maskL (guardSlots ops o), maskL (optL o.dst)⟩⟩ := by
  refine ⟨⟨⟨hd, hg, fun h => by simp at h, fun _ => ⟨rfl, rfl⟩⟩, fun j hj => rfl, fun j hj => by simp at hj, fun e' h1 h2 h3 h4 => ?_⟩, ⟨rfl, fun h => by simp at h, fun r hr => by simp [Sl.refs] at hr, rfl, rfl⟩⟩
  exact ⟨e'.ow, ⟨by rw [dOK_congr h1]; exact hd, by rw [gOK_congr h2]; exact hg, fun h => by simp at h, fun _ => ⟨rfl, rfl⟩⟩, fun j hj => by simp at hj, fun j _ => rfl⟩

/-- What one step of the run in the order of the text comes to. -/
def Stepped (G : Cfg) (ops : List Oper) (e0 : Env) (o : Oper) (i : Nat) (e : Env) (log : List Log) (K : Env → List Log → Option α) (r : α) : Prop :=
  ∃ (x : X) (rs : Roots) (e1 : Env), e1.ae = e.ae ∧ x.i = i ∧ x.o = o ∧ x.l.i = i ∧ Good G ops x e1 rs ∧ XOK x ∧ (x.on = true → Fresh e0 x.F ∧ ∀ y ∈ log, x.F ∉ y.fp) ∧ K (x.next e1 rs) (x.l :: log) = some r

theorem evDrawOp_step {e0 : Env} {o : Oper} {i : Nat} {e : Env} {log : List Log} {K : Env → List Log → Option α} {r : α} (hg : gOK ops o e = some true) (h : evDrawOp G ops e0 o i e log K = some r) : Stepped G ops e0 o i e log K r := by
  unfold evDrawOp at h
  cases hd : dOK e o.dst <;> rw [hd] at h
  · simp at h
  simp only [cond_true] at h
  obtain ⟨F, hF, hF0, hFl, h⟩ := pickD_sound _ _ h
  cases hop : opRes G e.opd o.op e.ow F with
  | fail => rw [hop] at h; simp at h
  | ok c s rs =>
    rw [hop] at h
    cases c
    · simp [dyn] at h
    · simp only [dyn, logK_eq, setK_eq] at h
      obtain ⟨g1, g2⟩ := good_on (G := G) i hd hg hF (s := s) (rs := rs) (by rw [hop]; exact .ok _ _)
      exact ⟨_, rs, e, rfl, rfl, rfl, rfl, g1, g2, fun _ => ⟨hF0, hFl⟩, h⟩
  | call σ x f =>
    rw [hop] at h
    cases x with
    | none => simp [dbind] at h
    | some y =>
      simp only [dbind] at h
      split at h
      · rename_i q hq
        simp only [logK_eq, setK_eq] at h
        obtain ⟨g1, g2⟩ := good_on (G := G) i hd hg hF (s := q.1) (rs := q.2) (by rw [hop]; exact .call _ _ _ _ _ hq)
        exact ⟨_, q.2, e, rfl, rfl, rfl, rfl, g1, g2, fun _ => ⟨hF0, hFl⟩, h⟩
      · simp at h
theorem setE_un (e : Env) (d : Option Nat) : setE e d .ud e.ow = unE e d := by cases d <;> rfl
theorem unD_step {e0 : Env} {o : Oper} {i : Nat} {e : Env} {log : List Log} {K : Env → List Log → Option α} {r : α} (hg : gOK ops o e = some false) (h : unD ops o i e log K = some r) : Stepped G ops e0 o i e log K r := by
  simp only [unD, forceNat_eq] at h
  have fin : dOK e o.dst = true → K (unE e o.dst) (⟨i, guardSlots ops o, optL o.dst, [], [], maskL (guardSlots ops o), maskL (optL o.dst)⟩ :: log) = some r → Stepped G ops e0 o i e log K r := fun hd h => by
    obtain ⟨g1, g2⟩ := good_off (G := G) i hd hg
    exact ⟨_, e.ow, e, rfl, rfl, rfl, rfl, g1, g2, fun h => by simp at h, by simp only [X.next, setE_un]; exact h⟩
  split at h
  · rename_i d hdd
    cases hd : dOK e (some d) <;> rw [hd] at h
    · simp at h
    simp only [cond_true, putK_eq] at h
    rw [hdd] at fin
    exact fin hd h
  · rename_i hdd
    rw [hdd] at fin
    exact fin rfl h
theorem gOK_ae {o : Oper} {e e' : Env} (h : e'.ae = e.ae) : gOK ops o e' = gOK ops o e := gOK_congr fun t _ => ae_slot h t
theorem Stepped.ae {e0 : Env} {o : Oper} {i : Nat} {e e' : Env} {log : List Log} {K : Env → List Log → Option α} {r : α} (he : e'.ae = e.ae) (h : Stepped G ops e0 o i e' log K r) : Stepped G ops e0 o i e log K r := by
  obtain ⟨x, rs, e1, h1, h2⟩ := h
  exact ⟨x, rs, e1, h1.trans he, h2⟩
theorem evDrawG_step {e0 : Env} {o : Oper} {i : Nat} {e : Env} {log : List Log} {K : Env → List Log → Option α} {r : α} (h : evDrawG G ops e0 o i e log K = some r) : Stepped G ops e0 o i e log K r := by
  unfold evDrawG at h
  split at h
  · rename_i hgd
    exact evDrawOp_step (by unfold gOK; rw [hgd]) h
  · rename_i j want hgd
    split at h
    · rename_i g hj
      split at h
      · rename_i b hs
        have hput : ∀ b', b = b' → (putE e g (.dt .bool b')).ae = e.ae := fun b' hb => putE_same (by rw [hs, hb])
        have hgk : ∀ b', b = b' → gOK ops o (putE e g (.dt .bool b')) = some (b' == want) := fun b' hb => by
          rw [gOK_ae (hput b' hb)]
          unfold gOK
          rw [hgd]
          dsimp only
          rw [hj]
          dsimp only
          rw [hs, hb]
        cases b <;> cases want <;> simp only [dyn, putK_eq, cond_true, cond_false] at h
        · exact (evDrawOp_step (hgk false rfl) h).ae (hput false rfl)
        · exact (unD_step (hgk false rfl) h).ae (hput false rfl)
        · exact (unD_step (hgk true rfl) h).ae (hput true rfl)
        · exact (evDrawOp_step (hgk true rfl) h).ae (hput true rfl)
      · rename_i hs
        exact unD_step (by unfold gOK; rw [hgd]; dsimp only; rw [hj]; dsimp only; rw [hs]) h
      · simp at h
    · simp at h

/-- The pair is in order, or apart. -/
def PairM (ps : List Nat) (x y : Log) : Prop := bitOf ((nthL ps y.i).getD 0) x.i = true ∨ apart x y = true
theorem apartOne_ok {m : Nat} {y : Log} : ∀ {l : List Log}, apartOne m y l = true → ∀ x ∈ l, bitOf m x.i = true ∨ apart x y = true
  | [], _, x, hx => by simp at hx
  | z :: l, h, x, hx => by
    simp only [apartOne, Bool.and_eq_true, Bool.or_eq_true] at h
    rcases List.mem_cons.1 hx with rfl | hx
    · exact h.1
    · exact apartOne_ok h.2 x hx
theorem evDraw_run {e0 : Env} {ps : List Nat} {K : Env → Option α} {r : α} : ∀ (l : List Oper) (i : Nat) (e : Env) (log : List Log), (∀ k o, l[k]? = some o → ops[i + k]? = some o) → evDrawL G ops e0 ps l i e log K = some r →
    ∃ (L : List X) (e' : Env), K e' = some r ∧ Run G ops e L e' ∧ L.map (·.i) = List.range' i l.length ∧ (∀ x ∈ L, XOK x ∧ ops[x.i]? = some x.o ∧ x.l.i = x.i ∧ (x.on = true → Fresh e0 x.F ∧ ∀ y ∈ log, x.F ∉ y.fp)) ∧
      L.Pairwise (fun x y => y.on = true → y.F ∉ x.l.fp) ∧ L.Pairwise (fun x y => PairM ps x.l y.l) ∧ (∀ y ∈ L, ∀ x ∈ log, PairM ps x y.l)
  | [], i, e, log, hl, h => ⟨[], e, h, rfl, rfl, by simp, by simp, by simp, by simp⟩
  | o :: l, i, e, log, hl, h => by
    simp only [evDrawL, forceNat_eq] at h
    obtain ⟨x, rs, e1, h1, h2, h3, h4, hg, hx, hf, h⟩ := evDrawG_step h
    dsimp only at h
    cases ha : apartHd ((nthL ps i).getD 0) (x.l :: log) <;> rw [ha] at h
    · simp at h
    simp only [cond_true] at h
    have hpm : ∀ z ∈ log, PairM ps z x.l := fun z hz => by
      have := apartOne_ok ha z hz
      unfold PairM; rw [h4]; exact this
    obtain ⟨L, e', k1, k2, k3, k4, k5, k6, k7⟩ := evDraw_run l (i + 1) (x.next e1 rs) (x.l :: log) (fun k o' hk => by
      have := hl (k + 1) o' (by rw [List.getElem?_cons_succ]; exact hk)
      rw [show i + 1 + k = i + (k + 1) by omega]; exact this) h
    refine ⟨x :: L, e', k1, run_ae (x :: L) h1 ⟨rs, hg, k2⟩, ?_, fun y hy => ?_, ?_, ?_, fun y hy z hz => ?_⟩
    · simp only [List.map_cons, k3, h2, List.length_cons, List.range'_succ]
    · rcases List.mem_cons.1 hy with rfl | hy
      · refine ⟨hx, ?_, by rw [h4, h2], hf⟩
        have := hl 0 o (by simp)
        rw [h2, h3]; simpa using this
      · obtain ⟨q1, q2, q3, q4⟩ := k4 y hy
        exact ⟨q1, q2, q3, fun hon => ⟨(q4 hon).1, fun z hz => (q4 hon).2 z (by simp [hz])⟩⟩
    · refine List.pairwise_cons.2 ⟨fun y hy hon => ((k4 y hy).2.2.2 hon).2 x.l (by simp), k5⟩
    · exact List.pairwise_cons.2 ⟨fun y hy => k7 y hy x.l (by simp), k6⟩
    · rcases List.mem_cons.1 hy with rfl | hy
      · exact hpm z hz
      · exact k7 y hy z (by simp [hz])

theorem lowEdges_ok {i : Nat} : ∀ {l : List Edge}, lowEdges i l = true → ∀ ed ∈ l, Region.binds .any ed = true → ed.on < i
  | [], _, ed, h => by simp at h
  | x :: l, h, ed, hed => by
    simp only [lowEdges, edgeBinds_eq, Bool.and_eq_true, Bool.or_eq_true] at h
    intro hb
    rcases List.mem_cons.1 hed with rfl | hed
    · rcases h.1 with h1 | h1
      · rw [nott_eq h1] at hb; simp at hb
      · simpa using h1
    · exact lowEdges_ok h.2 ed hed hb
theorem lowAll_ok : ∀ {l : List Oper} {i : Nat}, lowAll l i = true → ∀ k o, l[k]? = some o → ∀ ed ∈ o.after.toList, Region.binds .any ed = true → ed.on < i + k
  | [], i, _, k, o, h => by simp at h
  | q :: l, i, h, k, o, hk => by
    simp only [lowAll, Bool.and_eq_true] at h
    cases k with
    | zero =>
      simp only [List.getElem?_cons_zero, Option.some.injEq] at hk
      subst hk
      exact lowEdges_ok h.1
    | succ k =>
      rw [List.getElem?_cons_succ] at hk
      intro ed hed hb
      have := lowAll_ok h.2 k o hk ed hed hb
      omega

theorem evDraw_sound (hG : CfgOK P G) {id : Nat} {ops : Array Oper} {e : Env} {K : Env → Option α} {r : α} (h : evDraw G ops.toList e K = some r) : ∃ e', K e' = some r ∧ GoesC P (.region id ops true) e .normal e' := by
  unfold evDraw at h
  cases h7 : lowAll ops.toList 0 <;> rw [h7] at h
  · simp at h
  simp only [cond_true, ordsM_eq] at h
  obtain ⟨L, e', h1, h2, h3, h4, h5, h6, _⟩ := evDraw_run (ops := ops.toList) ops.toList 0 e [] (fun k o hk => by simpa using hk) h
  refine ⟨e', h1, fun Γ a w Q hst hq => wp_region_any hG.mixed ?_⟩
  have hlen : L.length = ops.size := by
    have := congrArg List.length h3
    simpa using this
  have hpw1 : L.Pairwise fun x y => x.i < y.i := by
    have : (L.map (·.i)).Pairwise (· < ·) := by rw [h3]; exact List.pairwise_lt_range'
    exact List.pairwise_map.1 this
  have hB := masks_bits ops.toList [] [] ⟨rfl, fun i j hb => by
    simp only [nthL, Option.getD_none, bitOf_zero] at hb; simp at hb⟩
  refine any_of_run hG (fun i o ed ho hed hb => ?_) ops.size _ L e ⟨by simp, fun i hi => ?_, fun x hx => ?_, ?_, fun i o ed hl _ _ _ => ?_⟩ (by omega) h2 Γ a _ (st_drew hst _) hq
  · have := lowAll_ok h7 i o (by rw [Array.getElem?_toList]; exact ho) ed (Array.mem_toList_iff.2 hed) hb
    omega
  · have hmem : i ∈ L.map (·.i) := by rw [h3]; simpa using hi
    obtain ⟨x, hx, hxi⟩ := List.mem_map.1 hmem
    refine ⟨fun _ => ⟨x, hx, hxi⟩, fun _ => by simp [Array.getD, hi]⟩
  · obtain ⟨q1, q2, q3, q4⟩ := h4 x hx
    exact ⟨by rw [← Array.getElem?_toList]; exact q2, q1, fun hon => (q4 hon).1⟩
  · have h8 := hpw1.and (h5.and h6)
    refine List.Pairwise.imp_of_mem (fun {x y} hx hy hxy => ?_) h8
    obtain ⟨p1, p2, p3⟩ := hxy
    refine ⟨p1, p2, ?_⟩
    refine p3.imp (fun hb => ?_) (fun hb => apart_ok (h4 x hx).1.rm (h4 x hx).1.dm (h4 y hy).1.rm (h4 y hy).1.dm hb)
    rw [(h4 x hx).2.2.1, (h4 y hy).2.2.1] at hb
    exact hB.2 _ _ hb
  · simp [Array.getD] at hl
end
end Go.Rex

/-! Code. -/
set_option linter.unusedSimpArgs false
set_option linter.unusedVariables false
namespace Go.Rex

section
variable {P : Program} {α : Type}

theorem opK_sound {e : Env} {c : Operand} {b : Bool} {K : Env → Option α} {r : α} (hc : e.opd c = .dt .bool b) (h : opK e c b K = some r) : ∃ e1, e1.ae = e.ae ∧ K e1 = some r := by
  cases c with
  | tmp s =>
    simp only [opK, putK_eq] at h
    exact ⟨_, putE_same hc, h⟩
  | _ => exact ⟨e, rfl, h⟩

theorem ev_sound {G : Cfg} (hG : CfgOK P G) {Ls : Loops} : ∀ (c : Code) (n : Nat), LsOK P Ls c n → ∀ (α : Type) (e : Env) (K : Ex → Env → Option α) (r : α), ev G Ls c n e K = some r → ∃ x e', K x e' = some r ∧ GoesC P c e x e'
  | .skip, n, hL, α, e, K, r, h => ⟨.normal, e, h, fun Γ a w Q hst hq => wp_skip (hq a w hst)⟩
  | .exit i, n, hL, α, e, K, r, h => ⟨.exit i, e, h, fun Γ a w Q hst hq => wp_exit (hq a w hst)⟩
  | .ret, n, hL, α, e, K, r, h => ⟨.ret, e, h, fun Γ a w Q hst hq => wp_ret (hq a w hst)⟩
  | .region id ops d, n, hL, α, e, K, r, h => by
    cases d
    · simp only [ev, cond_false] at h
      obtain ⟨e', h1, h2⟩ := evOps_sound hG ops.toList 0 (fun k => by simp) e _ r h
      refine ⟨.normal, e', h1, fun Γ a w Q hst hq => wp_region ?_⟩
      have := h2 Γ a w Q hst hq
      rw [List.range_eq_range']
      simpa using this
    · simp only [ev, cond_true] at h
      obtain ⟨e', h1, h2⟩ := evDraw_sound hG h
      exact ⟨.normal, e', h1, h2⟩
  | .seq c d, n, hL, α, e, K, r, h => by
    simp only [ev] at h
    obtain ⟨x, e1, h1, h2⟩ := ev_sound hG c n hL.1 α e _ r h
    cases x with
    | normal =>
      obtain ⟨x, e2, h3, h4⟩ := ev_sound hG d _ hL.2 α e1 _ r h1
      exact ⟨x, e2, h3, fun Γ a w Q hst hq => wp_seq (h2 Γ a w _ hst fun a' w' hst' => h4 Γ a' w' Q hst' hq)⟩
    | exit i => exact ⟨.exit i, e1, h1, fun Γ a w Q hst hq => wp_seq (h2 Γ a w _ hst fun a' w' hst' => hq a' w' hst')⟩
    | ret => exact ⟨.ret, e1, h1, fun Γ a w Q hst hq => wp_seq (h2 Γ a w _ hst fun a' w' hst' => hq a' w' hst')⟩
  | .cond c x y, n, hL, α, e, K, r, h => by
    simp only [ev] at h
    split at h
    · rename_i v hc
      have hopK : ∀ b, v = b → ∀ (K' : Env → Option α), opK e c b K' = some r → ∃ e1, e1.ae = e.ae ∧ K' e1 = some r := fun b hb K' h => opK_sound (hb ▸ hc) h
      have hv : ∀ (Γ : Ctx) (a : Act) (w : World), St Γ e.ae a w → a.eval c = .bool v := fun Γ a w hst => by
        obtain ⟨cs, bs, hx⟩ := hst.x
        exact dt_bool (hc ▸ opd_ok hx c)
      cases v
      · simp only [dyn] at h
        obtain ⟨e1, h1, h2⟩ := hopK false rfl _ h
        obtain ⟨x', e2, h3, h4⟩ := ev_sound hG y _ hL.2 α e1 K r h2
        exact ⟨x', e2, h3, fun Γ a w Q hst hq => wp_cond_false (hv Γ a w hst) (h4 Γ a w Q (by rw [h1]; exact hst) hq)⟩
      · simp only [dyn] at h
        obtain ⟨e1, h1, h2⟩ := hopK true rfl _ h
        obtain ⟨x', e2, h3, h4⟩ := ev_sound hG x _ hL.1 α e1 K r h2
        exact ⟨x', e2, h3, fun Γ a w Q hst hq => wp_cond_true (hv Γ a w hst) (h4 Γ a w Q (by rw [h1]; exact hst) hq)⟩
    · simp at h
  | .block id c, n, hL, α, e, K, r, h => by
    simp only [ev] at h
    obtain ⟨x, e1, h1, h2⟩ := ev_sound hG c n hL α e _ r h
    cases x with
    | normal => exact ⟨.normal, e1, h1, fun Γ a w Q hst hq => wp_block (h2 Γ a w _ hst fun a' w' hst' => hq a' w' hst')⟩
    | ret => exact ⟨.ret, e1, h1, fun Γ a w Q hst hq => wp_block (h2 Γ a w _ hst fun a' w' hst' => hq a' w' hst')⟩
    | exit i =>
      dsimp only at h1
      by_cases hi : i = id
      · subst hi
        rw [nbeq.2 rfl] at h1
        exact ⟨.normal, e1, h1, fun Γ a w Q hst hq => wp_block (h2 Γ a w _ hst fun a' w' hst' => by simp only [Ex.out, Exit.inBlock, if_true]; exact hq a' w' hst')⟩
      · rw [nbeq_false.2 hi] at h1
        exact ⟨.exit i, e1, h1, fun Γ a w Q hst hq => wp_block (h2 Γ a w _ hst fun a' w' hst' => by simp only [Ex.out, Exit.inBlock, if_neg hi]; exact hq a' w' hst')⟩
  | .loop c, n, hL, α, e, K, r, h => hL α e K r h
  | .rangeFunc .., n, hL, α, e, K, r, h => by simp [ev] at h
  | .label _, n, hL, α, e, K, r, h => by simp [ev] at h
  | .goto _, n, hL, α, e, K, r, h => by simp [ev] at h

end
end Go.Rex

/-! A function: from its body to its summary. Entry. -/
set_option linter.unusedSimpArgs false
set_option linter.unusedVariables false
namespace Go.Rex

def chainLen : Ty → Nat
  | .pr _ b => Nat.succ (chainLen b)
  | _ => 0
def bnSlots (r : Nat) : Nat → Nat → Nat → List (Nat × Sl)
  | 0, _, _ => []
  | Nat.succ k, m, i => (i, .rf r 0 (fp m) []) :: bnSlots r k (Nat.succ m) (Nat.succ i)
/-- i: the slot; j: the parameter. -/
def entrySlots : (ps : List PM) → dens ps → Nat → Nat → List (Nat × Sl)
  | [], _, _, _ => []
  | .rd t :: ps, x, i, j => (i, .dt t x.1) :: entrySlots ps x.2 (Nat.succ i) (Nat.succ j)
  | .ln _ _ :: ps, x, i, j => (i, .rf (Nat.add 100000 j) 0 [] []) :: entrySlots ps x.2 (Nat.succ i) (Nat.succ j)
  | .mv _ _ :: ps, x, i, j => (i, .rf (Nat.add 100000 j) 0 [] []) :: entrySlots ps x.2 (Nat.succ i) (Nat.succ j)
  | .bn t _ :: ps, x, i, j => appL (bnSlots (Nat.add 100000 j) (chainLen t) 0 i) (entrySlots ps x.2 (Nat.add i (chainLen t)) (Nat.succ j))
def entryRoots : (ps : List PM) → dens ps → Nat → Roots
  | [], _, _ => []
  | .rd _ :: ps, x, j => entryRoots ps x.2 (Nat.succ j)
  | .ln t o :: ps, x, j => (Nat.add 100000 j, ⟨0, t, o, x.1⟩) :: entryRoots ps x.2 (Nat.succ j)
  | .mv t o :: ps, x, j => (Nat.add 100000 j, ⟨0, t, o, x.1⟩) :: entryRoots ps x.2 (Nat.succ j)
  | .bn t o :: ps, x, j => (Nat.add 100000 j, ⟨0, t, o, x.1⟩) :: entryRoots ps x.2 (Nat.succ j)
def fromTo : Nat → Nat → List Nat
  | 0, _ => []
  | Nat.succ k, i => i :: fromTo k (Nat.succ i)
def entryPins : List PM → Nat → List Nat
  | [], _ => []
  | .rd _ :: ps, i => entryPins ps (Nat.succ i)
  | .mv _ _ :: ps, i => entryPins ps (Nat.succ i)
  | .ln _ _ :: ps, i => i :: entryPins ps (Nat.succ i)
  | .bn t _ :: ps, i => appL (fromTo (chainLen t) i) (entryPins ps (Nat.add i (chainLen t)))
def entry (ps : List PM) (x : dens ps) (nt : Nat) : Env := ⟨entrySlots ps x 0 0, entryRoots ps x 0, ⟨nt, entryPins ps 0⟩⟩
def arity : List PM → Nat
  | [] => 0
  | .bn t _ :: ps => Nat.add (chainLen t) (arity ps)
  | _ :: ps => Nat.succ (arity ps)
def psOK : List PM → Bool
  | [] => true
  | .bn t _ :: ps => bxChain t && psOK ps
  | _ :: ps => psOK ps

def entC : List PM → List (List Value) → Nat → List (Nat × List Value)
  | .rd _ :: ps, _ :: cl, j => entC ps cl (j + 1)
  | _ :: ps, c :: cl, j => (100000 + j, c) :: entC ps cl (j + 1)
  | _, _, _ => []
def entB : List PM → List (List Nat) → Nat → List (Nat × List Nat)
  | .rd _ :: ps, _ :: bl, j => entB ps bl (j + 1)
  | _ :: ps, b :: bl, j => (100000 + j, b) :: entB ps bl (j + 1)
  | _, _, _ => []

section
variable {w : World} {ok : Nat → Prop}

theorem entB_flat : ∀ (ps : List PM) (x : dens ps) (cl : List (List Value)) (bl : List (List Nat)) (j : Nat), ArgsRep w ok ps x cl bl → ((entB ps bl j).map fun q => q.2).flatten = bl.flatten
  | [], x, [], [], j, h => rfl
  | m :: ps, x, c :: cl, b :: bl, j, h => by
    have ih := entB_flat ps x.2 cl bl (j + 1) h.2
    cases m with
    | rd t =>
      have := Rep.no_bs _ _ _ _ h.1
      subst this
      simpa [entB] using ih
    | ln t o => simp [entB, ih]
    | mv t o => simp [entB, ih]
    | bn t o => simp [entB, ih]
  | [], x, _ :: _, [], j, h => h.elim
  | [], x, [], _ :: _, j, h => h.elim
  | [], x, _ :: _, _ :: _, j, h => h.elim
  | _ :: _, x, [], _, j, h => by cases h
  | _ :: _, x, _ :: _, [], j, h => by cases h

theorem entry_roots : ∀ (ps : List PM) (x : dens ps) (cl : List (List Value)) (bl : List (List Nat)) (j : Nat), ArgsRep w ok ps x cl bl → ∀ r R, lk (entryRoots ps x j) r = some R →
    100000 + j ≤ r ∧ ∃ c b, lk (entC ps cl j) r = some c ∧ lk (entB ps bl j) r = some b ∧ Rep w ok R.t R.o R.x c b
  | [], x, cl, bl, j, h, r, R, hr => by simp [entryRoots, lk] at hr
  | _ :: _, x, [], _, j, h, r, R, hr => by cases h
  | _ :: _, x, _ :: _, [], j, h, r, R, hr => by cases h
  | m :: ps, x, c :: cl, b :: bl, j, h, r, R, hr => by
    have ih := fun hr => entry_roots ps x.2 cl bl (j + 1) h.2 r R hr
    have own : ∀ (t : Ty) (o : Ow) (x1 : t.den), Rep w ok t o x1 c b → lk ((Nat.add 100000 j, (⟨0, t, o, x1⟩ : Root)) :: entryRoots ps x.2 (Nat.succ j)) r = some R →
        100000 + j ≤ r ∧ ∃ c' b', lk ((100000 + j, c) :: entC ps cl (j + 1)) r = some c' ∧ lk ((100000 + j, b) :: entB ps bl (j + 1)) r = some b' ∧ Rep w ok R.t R.o R.x c' b' := fun t o x1 hrep hr => by
      simp only [lk] at hr ⊢
      cases hk : Nat.beq (100000 + j) r
      · rw [show Nat.beq (Nat.add 100000 j) r = false from hk] at hr
        obtain ⟨g1, c', b', g2, g3, g4⟩ := ih hr
        exact ⟨by omega, c', b', g2, g3, g4⟩
      · rw [show Nat.beq (Nat.add 100000 j) r = true from hk] at hr
        simp only [cond_true, Option.some.injEq] at hr
        subst hr
        exact ⟨by have := nbeq.1 hk; omega, c, b, rfl, rfl, hrep⟩
    cases m with
    | rd t =>
      obtain ⟨g1, c', b', g2, g3, g4⟩ := ih hr
      exact ⟨by omega, c', b', g2, g3, g4⟩
    | ln t o => exact own t o x.1 h.1 hr
    | mv t o => exact own t o x.1 h.1 hr
    | bn t o => exact own t o x.1 h.1 hr

theorem chain_off : ∀ (t : Ty) (m : Nat), bxChain t = true → m < chainLen t → ∃ k, offOf t m = some k ∧ k.1 = m ∧ k.2.width = 1
  | .nl, m, _, h => by simp [chainLen] at h
  | .pr (.bx a) b, 0, _, h => ⟨(0, .bx a), rfl, rfl, rfl⟩
  | .pr (.bx a) b, m + 1, hc, h => by
    obtain ⟨k, h1, h2, h3⟩ := chain_off b m hc (by simpa [chainLen] using h)
    exact ⟨(k.1 + 1, k.2), by simp [offOf, h1, Ty.width], by simp [h2], h3⟩
theorem chain_width : ∀ (t : Ty), bxChain t = true → t.width = chainLen t
  | .nl, _ => rfl
  | .pr (.bx a) b, h => by simp only [Ty.width, chainLen]; rw [chain_width b h]; omega

theorem bnSlots_lk (r : Nat) : ∀ (k m i s : Nat) (sl : Sl), lk (bnSlots r k m i) s = some sl → i ≤ s ∧ s < i + k ∧ sl = .rf r 0 (fp (m + (s - i))) []
  | 0, m, i, s, sl, h => by simp [bnSlots, lk] at h
  | k + 1, m, i, s, sl, h => by
    simp only [bnSlots, lk] at h
    cases hk : Nat.beq i s <;> rw [hk] at h
    · obtain ⟨g1, g2, g3⟩ := bnSlots_lk r k (m + 1) (i + 1) s sl h
      refine ⟨by omega, by omega, ?_⟩
      rw [g3, show m + 1 + (s - (i + 1)) = m + (s - i) by omega]
    · simp only [cond_true, Option.some.injEq] at h
      have := nbeq.1 hk
      subst this
      exact ⟨Nat.le_refl _, by omega, by rw [← h]; simp⟩
theorem lk_append {β : Type} : ∀ (l q : List (Nat × β)) (i : Nat), lk (l ++ q) i = match lk l i with | some v => some v | none => lk q i
  | [], q, i => rfl
  | (k, v) :: l, q, i => by
    simp only [List.cons_append, lk]
    cases Nat.beq k i
    · exact lk_append l q i
    · rfl
theorem bnSlots_none (r : Nat) : ∀ (k m i s : Nat), lk (bnSlots r k m i) s = none → ¬ (i ≤ s ∧ s < i + k)
  | 0, m, i, s, h => by omega
  | k + 1, m, i, s, h => by
    simp only [bnSlots, lk] at h
    cases hk : Nat.beq i s <;> rw [hk] at h
    · have := bnSlots_none r k (m + 1) (i + 1) s h
      have := nbeq_false.1 hk
      omega
    · simp at h

theorem argVals_len : ∀ (ps : List PM) (x : dens ps) (cl : List (List Value)) (bl : List (List Nat)), psOK ps = true → ArgsRep w ok ps x cl bl → (argVals ps cl).length = arity ps
  | [], x, cl, bl, _, h => by cases cl <;> rfl
  | _ :: _, x, [], _, _, h => by cases h
  | _ :: _, x, _ :: _, [], _, h => by cases h
  | m :: ps, x, c :: cl, b :: bl, hp, h => by
    cases m with
    | bn t o =>
      simp only [psOK, Bool.and_eq_true] at hp
      have := argVals_len ps x.2 cl bl hp.2 h.2
      have hl := Rep.len _ _ _ _ _ h.1
      simp only [argVals, pvals, List.length_append, arity, this]
      rw [packs_chain _ _ hp.1 hl, hl, chain_width _ hp.1]; rfl
    | rd t => have := argVals_len ps x.2 cl bl hp h.2; simp [argVals, pvals, arity, this]
    | ln t o => have := argVals_len ps x.2 cl bl hp h.2; simp [argVals, pvals, arity, this]
    | mv t o => have := argVals_len ps x.2 cl bl hp h.2; simp [argVals, pvals, arity, this]

theorem entry_slots {okO : Nat → Prop} {O : Nat → Option Root} {cs : Nat → List Value} (hok : ∀ b, ok b → okO b) : ∀ (ps : List PM) (x : dens ps) (cl : List (List Value)) (bl : List (List Nat)) (i j : Nat), psOK ps = true → ArgsRep w ok ps x cl bl →
    (∀ r R, lk (entryRoots ps x j) r = some R → O r = some R) → (∀ r c, lk (entC ps cl j) r = some c → cs r = c) → ∀ s sl, lk (entrySlots ps x i j) s = some sl → i ≤ s ∧ ∃ v, (argVals ps cl)[s - i]? = some v ∧ SlotOK w okO O cs sl v
  | [], x, cl, bl, i, j, hp, h, hO, hcs, s, sl, hs => by simp [entrySlots, lk] at hs
  | _ :: _, x, [], _, i, j, hp, h, hO, hcs, s, sl, hs => by cases h
  | _ :: _, x, _ :: _, [], i, j, hp, h, hO, hcs, s, sl, hs => by cases h
  | m :: ps, x, c :: cl, b :: bl, i, j, hp, h, hO, hcs, s, sl, hs => by
    have ge : ∀ r R, lk (entryRoots ps x.2 (j + 1)) r = some R → 100000 + j < r := fun r R hr => by
      have := (entry_roots ps x.2 cl bl (j + 1) h.2 r R hr).1; omega
    have geC : ∀ (ps : List PM) (cl : List (List Value)) (j r : Nat) (c : List Value), lk (entC ps cl j) r = some c → 100000 + j ≤ r := by
      intro ps
      induction ps with
      | nil => intro cl j r c h; simp [entC, lk] at h
      | cons m ps ih =>
        intro cl j r c h
        cases cl with
        | nil => cases m <;> simp [entC, lk] at h
        | cons c0 cl =>
          have own : lk ((100000 + j, c0) :: entC ps cl (j + 1)) r = some c → 100000 + j ≤ r := fun h => by
            simp only [lk] at h
            cases hk : Nat.beq (100000 + j) r <;> rw [hk] at h
            · have := ih cl (j + 1) r c h; omega
            · have := nbeq.1 hk; omega
          cases m with
          | rd t => have := ih cl (j + 1) r c h; omega
          | ln t o => exact own h
          | mv t o => exact own h
          | bn t o => exact own h
    have one : ∀ (v0 : Value) (sl0 : Sl), SlotOK w okO O cs sl0 v0 → (∀ s sl, lk (entrySlots ps x.2 (i + 1) (j + 1)) s = some sl → i + 1 ≤ s ∧ ∃ v, (argVals ps cl)[s - (i + 1)]? = some v ∧ SlotOK w okO O cs sl v) →
        lk ((i, sl0) :: entrySlots ps x.2 (Nat.succ i) (Nat.succ j)) s = some sl → i ≤ s ∧ ∃ v, (v0 :: argVals ps cl)[s - i]? = some v ∧ SlotOK w okO O cs sl v := fun v0 sl0 h0 hrest hs0 => by
      have hs := hs0
      simp only [lk] at hs
      cases hk : Nat.beq i s <;> rw [hk] at hs
      · obtain ⟨g1, v, g2, g3⟩ := hrest s sl hs
        refine ⟨by omega, v, ?_, g3⟩
        rw [show s - i = (s - (i + 1)) + 1 by omega, List.getElem?_cons_succ]; exact g2
      · simp only [cond_true, Option.some.injEq] at hs
        have := nbeq.1 hk
        rw [← hs, ← this]
        exact ⟨Nat.le_refl _, v0, by simp, h0⟩
    cases m with
    | rd t =>
      refine one (pack t c) (.dt t x.1) ⟨c, ?_, rfl⟩ (entry_slots hok ps x.2 cl bl (i + 1) (j + 1) hp h.2 hO hcs) hs
      have h1 := h.1
      have := Rep.no_bs _ _ _ _ h1
      subst this
      exact Rep.frame (fun b hb _ => ⟨hok b hb, rfl⟩) _ _ _ _ _ (fun _ _ => rfl) h1
    | ln t o =>
      have hO1 : O (100000 + j) = some ⟨0, t, o, x.1⟩ := hO _ _ (by simp [entryRoots, lk, nbeq.2 rfl])
      have hc1 : cs (100000 + j) = c := hcs _ _ (by simp [entC, lk, nbeq.2 rfl])
      refine one (pack t c) (.rf (100000 + j) 0 [] []) (fun R hR => ?_) (entry_slots hok ps x.2 cl bl (i + 1) (j + 1) hp h.2 (fun r R hr => hO r R ?_) (fun r c' hr => hcs r c' ?_)) hs
      · rw [hO1] at hR; obtain rfl := Option.some.inj hR
        exact ⟨Nat.zero_le _, fun _ => ⟨_, rfl, by rw [hc1]⟩⟩
      · simp only [entryRoots, lk]; rw [show Nat.beq (Nat.add 100000 j) r = false from nbeq_false.2 (by have := ge r R hr; show 100000 + j ≠ r; omega)]; exact hr
      · simp only [entC, lk]; rw [nbeq_false.2 (by have := geC ps cl (j + 1) r c' hr; omega)]; exact hr
    | mv t o =>
      have hO1 : O (100000 + j) = some ⟨0, t, o, x.1⟩ := hO _ _ (by simp [entryRoots, lk, nbeq.2 rfl])
      have hc1 : cs (100000 + j) = c := hcs _ _ (by simp [entC, lk, nbeq.2 rfl])
      refine one (pack t c) (.rf (100000 + j) 0 [] []) (fun R hR => ?_) (entry_slots hok ps x.2 cl bl (i + 1) (j + 1) hp h.2 (fun r R hr => hO r R ?_) (fun r c' hr => hcs r c' ?_)) hs
      · rw [hO1] at hR; obtain rfl := Option.some.inj hR
        exact ⟨Nat.zero_le _, fun _ => ⟨_, rfl, by rw [hc1]⟩⟩
      · simp only [entryRoots, lk]; rw [show Nat.beq (Nat.add 100000 j) r = false from nbeq_false.2 (by have := ge r R hr; show 100000 + j ≠ r; omega)]; exact hr
      · simp only [entC, lk]; rw [nbeq_false.2 (by have := geC ps cl (j + 1) r c' hr; omega)]; exact hr
    | bn t o =>
      simp only [psOK, Bool.and_eq_true] at hp
      have hO1 : O (100000 + j) = some ⟨0, t, o, x.1⟩ := hO _ _ (by simp [entryRoots, lk, nbeq.2 rfl])
      have hc1 : cs (100000 + j) = c := hcs _ _ (by simp [entC, lk, nbeq.2 rfl])
      have hl := Rep.len _ _ _ _ _ h.1
      have hw : c.length = chainLen t := by rw [hl]; exact chain_width _ hp.1
      have hpk := packs_chain t c hp.1 hl
      have hav : argVals (.bn t o :: ps) (c :: cl) = c ++ argVals ps cl := by simp only [argVals, pvals, hpk]
      rw [hav]
      simp only [entrySlots, appL_eq] at hs
      rw [lk_append] at hs
      cases hb : lk (bnSlots (Nat.add 100000 j) (chainLen t) 0 i) s with
      | some sl0 =>
        rw [hb] at hs
        simp only [Option.some.injEq] at hs
        subst hs
        obtain ⟨g1, g2, rfl⟩ := bnSlots_lk _ _ _ _ _ _ hb
        refine ⟨g1, c[s - i]'(by omega), by rw [List.getElem?_append_left (by omega)]; simp, fun R hR => ?_⟩
        rw [show O (Nat.add 100000 j) = _ from hO1] at hR
        obtain rfl := Option.some.inj hR
        refine ⟨Nat.zero_le _, fun _ => ?_⟩
        obtain ⟨k, k1, k2, k3⟩ := chain_off t (s - i) hp.1 (by omega)
        have hpg := packs_get k1 c
        rw [hpk, k2, k3] at hpg
        rw [show cs (Nat.add 100000 j) = c from hc1, Nat.zero_add]
        obtain ⟨o', ho'⟩ := locate_fp (w := w) k1 o c none []
        refine ⟨_, ho', ?_⟩
        dsimp only
        rw [k2, k3]
        rw [List.getElem?_eq_getElem (by omega)] at hpg
        exact Option.some.inj hpg
      | none =>
        rw [hb] at hs
        obtain ⟨g1, v, g2, g3⟩ := entry_slots hok ps x.2 cl bl (i + chainLen t) (j + 1) hp.2 h.2 (fun r R hr => hO r R (by simp only [entryRoots, lk]; rw [show Nat.beq (Nat.add 100000 j) r = false from nbeq_false.2 (by have := ge r R hr; show 100000 + j ≠ r; omega)]; exact hr))
          (fun r c' hr => hcs r c' (by simp only [entC, lk]; rw [nbeq_false.2 (by have := geC ps cl (j + 1) r c' hr; omega)]; exact hr)) s sl hs
        refine ⟨by omega, v, ?_, g3⟩
        rw [List.getElem?_append_right (by omega), show s - i - c.length = s - (i + chainLen t) by omega]; exact g2
end

end Go.Rex

/-! A function: from its body to its summary. -/
set_option linter.unusedSimpArgs false
set_option linter.unusedVariables false
namespace Go.Rex

section
variable {w : World} {ok : Nat → Prop}

theorem entry_st {ps : List PM} {x : dens ps} {cl : List (List Value)} {bl : List (List Nat)} {nt : Nat} (hp : psOK ps = true) (ha : arity ps ≤ nt) (h : ArgsRep w ok ps x cl bl) (hn : bl.flatten.Nodup) (hd : ∀ b ∈ bl.flatten, ¬ ok b) :
    St ⟨w, ok, bl.flatten, fun i => (argVals ps cl).getD i undef⟩ (entry ps x nt).ae { tmps := (argVals ps cl).toArray ++ Array.replicate (nt - (argVals ps cl).toArray.size) undef, defers := [] } w := by
  have hlen := argVals_len ps x cl bl hp h
  have hfl := entB_flat ps x cl bl 0 h
  have hget : ∀ i, ((argVals ps cl).toArray ++ Array.replicate (nt - (argVals ps cl).toArray.size) undef).getD i undef = (argVals ps cl).getD i undef := fun i => by
    rw [Array.getD_eq_getD_getElem?, List.getD_eq_getElem?_getD]
    by_cases hi : i < (argVals ps cl).length
    · rw [Array.getElem?_append_left (by simpa using hi)]; simp
    · rw [Array.getElem?_append_right (by simpa using hi), Array.getElem?_replicate, List.getElem?_eq_none (by omega)]
      split <;> rfl
  have hbs : ∀ r b, lk (entB ps bl 0) r = some b → ∀ z ∈ b, z ∈ bl.flatten := fun r b hb z hz => by
    rw [← hfl]; exact lk_flat (g := fun b => b) hb z hz
  have hok : ∀ b, ok b → okOf ⟨w, ok, bl.flatten, fun i => (argVals ps cl).getD i undef⟩ (lk (entryRoots ps x 0)) (fun r => (lk (entB ps bl 0) r).getD []) b := fun b hb => ⟨.inl hb, fun r R hr hz => by
    obtain ⟨_, c, b', _, g2, _⟩ := entry_roots ps x cl bl 0 h r R hr
    dsimp only at hz
    rw [g2] at hz
    exact hd b (hbs r b' g2 b hz) hb⟩
  have hroot : ∀ r R, lk (entryRoots ps x 0) r = some R → ∃ c b, (lk (entC ps cl 0) r).getD [] = c ∧ (lk (entB ps bl 0) r).getD [] = b ∧ lk (entB ps bl 0) r = some b ∧ Rep w ok R.t R.o R.x c b := fun r R hr => by
    obtain ⟨_, c, b', g1, g2, g3⟩ := entry_roots ps x cl bl 0 h r R hr
    exact ⟨c, b', by rw [g1]; rfl, by rw [g2]; rfl, g2, g3⟩
  refine ⟨⟨fun r => (lk (entC ps cl 0) r).getD [], fun r => (lk (entB ps bl 0) r).getD [], ⟨fun r R hr => ?_, fun r R hr => ?_, fun r R r' R' hr hr' hne z hz hz' => ?_, fun r R hr z hz => ?_, ⟨rfl, rfl, rfl, Nat.le_refl _, fun _ _ _ => rfl⟩⟩, fun s => ?_⟩, ?_, rfl, fun i hi => hget i⟩
  · obtain ⟨c, b, g1, g2, g3, g4⟩ := hroot r R hr
    rw [g1, g2]
    exact Rep.frame (fun b hb _ => ⟨hok b hb, rfl⟩) _ _ _ _ _ (fun _ _ => rfl) g4
  · obtain ⟨c, b, g1, g2, g3, g4⟩ := hroot r R hr
    rw [g2]
    exact (lk_flat_nd (g := fun b => b) (by rw [hfl]; exact hn) g3).1
  · obtain ⟨c, b, g1, g2, g3, g4⟩ := hroot r R hr
    obtain ⟨c', b', g1', g2', g3', g4'⟩ := hroot r' R' hr'
    rw [g2] at hz
    rw [g2'] at hz'
    exact (lk_flat_nd (g := fun b => b) (by rw [hfl]; exact hn) g3).2 g3' hne z hz hz'
  · obtain ⟨c, b, g1, g2, g3, g4⟩ := hroot r R hr
    rw [g2] at hz
    exact .inr (hbs r b g3 z hz)
  · show SlotOK _ _ _ _ ((entry ps x nt).slot s) _
    unfold Env.slot
    cases hs : lk (entry ps x nt).sl s with
    | none => trivial
    | some sl =>
      obtain ⟨_, v, g1, g2⟩ := entry_slots hok ps x cl bl 0 0 hp h (O := lk (entryRoots ps x 0)) (cs := fun r => (lk (entC ps cl 0) r).getD []) (fun r R hr => hr) (fun r c hc => by rw [hc]; rfl) s sl hs
      dsimp only
      rw [hget, List.getD_eq_getElem?_getD, show (argVals ps cl)[s]? = some v from g1]
      exact g2
  · simp [entry, Env.ae]; omega
end

def fit1 (g : Foc) (t : Ty) (o : Ow) : Option t.den := if h : g.t = t then bif g.o.le o || (Ow.eqb o .no && Ow.demotes g.t g.o) then some (h ▸ g.x) else none else none
def resUps : (t : Ty) → Ow → List Sl → Roots → Option (t.den × Roots)
  | .nl, _, [], rs => some ((), rs)
  | .pr a b, o, s :: l, rs => (useUp a s rs).bind fun g => (fit1 g.1 a o.fst).bind fun y => (resUps b o.snd l g.2).bind fun m => some (((y, m.1) : a.den × b.den), m.2)
  | _, _, _, _ => none
def resVal (n : Nat) (t : Ty) (o : Ow) (l : List Sl) (rs : Roots) : Option (t.den × Roots) :=
  match n with
  | 1 => match l with
    | [s] => (useUp t s rs).bind fun g => (fit1 g.1 t o).bind fun y => some (y, g.2)
    | _ => none
  | _ => resUps t o l rs
def fitR (R : Root) (t : Ty) (o : Ow) : Option t.den := if h : R.t = t then bif R.o.le o then some (h ▸ R.x) else none else none
def bnBack (e : Env) (r : Nat) : Nat → Nat → Nat → Bool
  | 0, _, _ => true
  | Nat.succ k, m, i => (match e.slot i with
    | .rf r' _ p ix => Nat.beq r' r && (decide (p = fp m) && Nat.beq (lenL ix) 0)
    | _ => false) && bnBack e r k (Nat.succ m) (Nat.succ i)
def finOuts (e : Env) (rs : Roots) : (ps : List PM) → Nat → Nat → Option (fins ps)
  | [], _, _ => some ()
  | .rd _ :: ps, i, j => finOuts e rs ps (Nat.succ i) (Nat.succ j)
  | .mv _ _ :: ps, i, j => finOuts e rs ps (Nat.succ i) (Nat.succ j)
  | .ln t o :: ps, i, j => bif (match e.slot i with
      | .rf r' _ [] [] => Nat.beq r' (Nat.add 100000 j)
      | _ => false) then (lk rs (Nat.add 100000 j)).bind fun R => (fitR R t o).bind fun y => (finOuts e rs ps (Nat.succ i) (Nat.succ j)).bind fun m => some ((y, m) : t.den × fins ps) else none
  | .bn t o :: ps, i, j => bif bnBack e (Nat.add 100000 j) (chainLen t) 0 i then
      (lk rs (Nat.add 100000 j)).bind fun R => (fitR R t o).bind fun y => (finOuts e rs ps (Nat.add i (chainLen t)) (Nat.succ j)).bind fun m => some ((y, m) : t.den × fins ps) else none

section
variable {P : Program} {Γ : Ctx} {S : Nat → Sl} {nt : Nt} {a : Act} {w : World}

theorem fit1_sound {okO : Nat → Prop} {g : Foc} {t : Ty} {o : Ow} {y : t.den} {c : List Value} {b0 : List Nat} (h : fit1 g t o = some y) (hr : Rep w okO g.t g.o g.x c b0) :
    g.t = t ∧ ∃ b, (b = b0 ∨ b = []) ∧ ∀ okF : Nat → Prop, (∀ z, okO z → okF z) → (∀ z ∈ b0, z ∈ b ∨ okF z) → Rep w okF t o y c b := by
  unfold fit1 at h
  split at h
  case isFalse => simp at h
  rename_i ht
  obtain ⟨gt, go, gx⟩ := g
  dsimp only at ht h hr ⊢
  subst ht
  refine ⟨rfl, ?_⟩
  cases hle : go.le o
  · rw [hle] at h
    cases hd : (Ow.eqb o .no && Ow.demotes gt go)
    · rw [hd] at h; simp at h
    rw [hd] at h
    simp only [Bool.or_true, cond_true, Option.some.injEq] at h
    subst h
    simp only [Bool.and_eq_true] at hd
    have := Ow.eqb_eq hd.1
    subst this
    exact ⟨[], .inr rfl, fun okF h1 h2 => Rep.demote h1 _ _ _ _ _ hd.2 (fun z hz => (h2 z hz).resolve_left (by simp)) hr⟩
  · rw [hle] at h
    simp only [Bool.true_or, cond_true, Option.some.injEq] at h
    subst h
    exact ⟨b0, .inl rfl, fun okF h1 h2 => Rep.frame (fun z hz _ => ⟨h1 z hz, rfl⟩) _ _ _ _ _ (fun _ _ => rfl) (Rep.weaken _ _ _ _ _ _ hle hr)⟩

def RU : (t : Ty) → Ow → t.den → List Item → List Value → Prop
  | .nl, _, _, [], [] => True
  | .pr a b, o, y, i :: its, v :: vs => fit1 i.f a o.fst = some y.1 ∧ v = pack i.f.t i.c ∧ RU b o.snd y.2 its vs
  | _, _, _, _, _ => False

theorem RU_rep {okO : Nat → Prop} : ∀ (t : Ty) (o : Ow) (y : t.den) (its : List Item) (vs : List Value), RU t o y its vs → (∀ i ∈ its, Rep w okO i.f.t i.f.o i.f.x i.c i.b) → (blks its).Nodup →
    ∃ c b, vs = packs t c ∧ b.Sublist (blks its) ∧ ∀ okF : Nat → Prop, (∀ z, okO z → okF z) → (∀ z ∈ blks its, z ∈ b ∨ okF z) → Rep w okF t o y c b
  | .nl, o, y, [], [], _, _, _ => ⟨[], [], rfl, by simp, fun okF _ _ => ⟨rfl, rfl⟩⟩
  | .pr a b, o, y, i :: its, v :: vs, h, hr, hn => by
    obtain ⟨h1, rfl, h3⟩ := h
    simp only [blks] at hn
    obtain ⟨n1, n2, n3⟩ := List.nodup_append.1 hn
    have hi := hr i (by simp)
    obtain ⟨e1, b1, hb1, k1⟩ := fit1_sound h1 hi
    obtain ⟨c2, b2, rfl, hb2, k2⟩ := RU_rep b o.snd y.2 its vs h3 (fun j hj => hr j (by simp [hj])) n2
    have hl := Rep.len _ _ _ _ _ hi
    rw [e1] at hl
    have hs1 : b1.Sublist i.b := by rcases hb1 with rfl | rfl <;> simp
    refine ⟨i.c ++ c2, b1 ++ b2, ?_, List.Sublist.append hs1 hb2, fun okF g1 g2 => ⟨i.c, c2, b1, b2, rfl, rfl, k1 okF g1 fun z hz => ?_, k2 okF g1 fun z hz => ?_⟩⟩
    · simp only [packs]
      rw [List.take_left' hl, List.drop_left' hl, e1]
    · rcases g2 z (by simp [blks, hz]) with g | g
      · rcases List.mem_append.1 g with g | g
        · exact .inl g
        · exact absurd rfl (n3 z hz z (hb2.subset g))
      · exact .inr g
    · rcases g2 z (by simp [blks, hz]) with g | g
      · rcases List.mem_append.1 g with g | g
        · exact absurd rfl (n3 z (hs1.subset g) z hz)
        · exact .inl g
      · exact .inr g
  | .nl, o, y, _ :: _, _, h, _, _ => by cases h
  | .nl, o, y, [], _ :: _, h, _, _ => by cases h
  | .pr _ _, o, y, [], _, h, _, _ => by cases h
  | .pr _ _, o, y, _ :: _, [], h, _, _ => by cases h
  | .int _, o, y, its, vs, h, _, _ => by cases its <;> cases vs <;> cases h
  | .bool, o, y, its, vs, h, _, _ => by cases its <;> cases vs <;> cases h
  | .str, o, y, its, vs, h, _, _ => by cases its <;> cases vs <;> cases h
  | .sl _, o, y, its, vs, h, _, _ => by cases its <;> cases vs <;> cases h
  | .bx _, o, y, its, vs, h, _, _ => by cases its <;> cases vs <;> cases h
  | .arr _ _, o, y, its, vs, h, _, _ => by cases its <;> cases vs <;> cases h
  | .fn _ _, o, y, its, vs, h, _, _ => by cases its <;> cases vs <;> cases h

theorem resUps_sound : ∀ (t : Ty) (o : Ow) (l : List Sl) (vs : List Value) (rs rs1 : Roots) (y : t.den) (items : List Item) (O : Nat → Option Root) (C : Nat → Bool) (cs : Nat → List Value) (bs : Nat → List Nat),
    HaveX Γ S nt a w rs items O C cs bs → (∀ O C cs bs rs items, HaveX Γ S nt a w rs items O C cs bs → SOKs w (okOf Γ O bs) O cs l vs) → resUps t o l rs = some (y, rs1) →
    ∃ O' C' cs' bs' its, HaveX Γ S nt a w rs1 (items ++ its) O' C' cs' bs' ∧ RU t o y its vs
  | .nl, o, [], vs, rs, rs1, y, items, O, C, cs, bs, h, hA, hm => by
    simp only [resUps, Option.some.injEq, Prod.mk.injEq] at hm
    obtain ⟨_, rfl⟩ := hm
    have := hA _ _ _ _ _ _ h
    cases vs with
    | nil => exact ⟨O, C, cs, bs, [], by simpa using h, trivial⟩
    | cons _ _ => cases this
  | .pr ta tb, o, s :: l, [], rs, rs1, y, items, O, C, cs, bs, h, hA, hm => by cases hA _ _ _ _ _ _ h
  | .pr ta tb, o, s :: l, v :: vs, rs, rs1, y, items, O, C, cs, bs, h, hA, hm => by
    simp only [resUps, Option.bind_eq_some_iff, Option.some.injEq, Prod.mk.injEq] at hm
    obtain ⟨g, hu, y1, hf, m, hm, rfl, rfl⟩ := hm
    obtain ⟨O', C', cs', bs', c, b, g1, g2, _⟩ := useUp_sound h (hA _ _ _ _ _ _ h).1 hu
    obtain ⟨O2, C2, cs2, bs2, its, k1, k2⟩ := resUps_sound tb o.snd l vs g.2 m.2 m.1 _ O' C' cs' bs' g1 (fun O C cs bs rs items h => (hA O C cs bs rs items h).2) hm
    exact ⟨O2, C2, cs2, bs2, ⟨g.1, c, b⟩ :: its, by rw [List.append_cons]; exact k1, hf, g2, k2⟩
  | .nl, o, _ :: _, vs, rs, rs1, y, items, O, C, cs, bs, h, hA, hm => by simp [resUps] at hm
  | .pr _ _, o, [], vs, rs, rs1, y, items, O, C, cs, bs, h, hA, hm => by simp [resUps] at hm
  | .int _, o, _, vs, rs, rs1, y, items, O, C, cs, bs, h, hA, hm => by simp [resUps] at hm
  | .bool, o, _, vs, rs, rs1, y, items, O, C, cs, bs, h, hA, hm => by simp [resUps] at hm
  | .str, o, _, vs, rs, rs1, y, items, O, C, cs, bs, h, hA, hm => by simp [resUps] at hm
  | .sl _, o, _, vs, rs, rs1, y, items, O, C, cs, bs, h, hA, hm => by simp [resUps] at hm
  | .bx _, o, _, vs, rs, rs1, y, items, O, C, cs, bs, h, hA, hm => by simp [resUps] at hm
  | .arr _ _, o, _, vs, rs, rs1, y, items, O, C, cs, bs, h, hA, hm => by simp [resUps] at hm
  | .fn _ _, o, _, vs, rs, rs1, y, items, O, C, cs, bs, h, hA, hm => by simp [resUps] at hm

/-- The result, told. -/
theorem resVal_sound {n : Nat} {t : Ty} {o : Ow} {l : List Sl} {vs : List Value} {rs rs1 : Roots} {y : t.den} {O : Nat → Option Root} {C : Nat → Bool} {cs : Nat → List Value} {bs : Nat → List Nat}
    (h : HaveX Γ S nt a w rs [] O C cs bs) (hA : ∀ O C cs bs rs items, HaveX Γ S nt a w rs items O C cs bs → SOKs w (okOf Γ O bs) O cs l vs) (hm : resVal n t o l rs = some (y, rs1)) :
    ∃ O' C' cs' bs' its c b, HaveX Γ S nt a w rs1 its O' C' cs' bs' ∧ b.Sublist (blks its) ∧ (∀ okF : Nat → Prop, (∀ z, okOf Γ O' bs' z → okF z) → (∀ z ∈ blks its, z ∈ b ∨ okF z) → Rep w okF t o y c b) ∧ (n = 1 → vs = [pack t c]) ∧ (n ≠ 1 → vs = packs t c) := by
  unfold resVal at hm
  split at hm
  · split at hm
    · rename_i s
      simp only [Option.bind_eq_some_iff, Option.some.injEq, Prod.mk.injEq] at hm
      obtain ⟨g, hu, y1, hf, rfl, rfl⟩ := hm
      have hs := hA _ _ _ _ _ _ h
      cases vs with
      | nil => cases hs
      | cons v vs =>
      cases vs with
      | cons _ _ => cases hs.2
      | nil =>
      obtain ⟨O', C', cs', bs', c, b, g1, g2, _⟩ := useUp_sound h hs.1 hu
      obtain ⟨e1, b1, hb1, k1⟩ := fit1_sound hf (g1.rep _ (by simp : (⟨g.1, c, b⟩ : Item) ∈ [] ++ [⟨g.1, c, b⟩]))
      refine ⟨O', C', cs', bs', _, c, b1, g1, by rcases hb1 with rfl | rfl <;> simp [blks], fun okF q1 q2 => k1 okF q1 fun z hz => q2 z (by simpa [blks] using hz), fun _ => by rw [g2, e1], fun hn => absurd rfl hn⟩
    · simp at hm
  · rename_i hn
    obtain ⟨O', C', cs', bs', its, k1, k2⟩ := resUps_sound t o l vs rs rs1 y [] O C cs bs h hA hm
    rw [List.nil_append] at k1
    obtain ⟨c, b, g1, g2, g3⟩ := RU_rep t o y its vs k2 k1.rep k1.nodup
    exact ⟨O', C', cs', bs', its, c, b, k1, g2, g3, fun h => absurd h hn, fun _ => g1⟩
end

end Go.Rex
