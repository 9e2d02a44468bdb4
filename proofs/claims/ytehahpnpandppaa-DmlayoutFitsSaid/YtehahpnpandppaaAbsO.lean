/- THE ABSTRACT MACHINE, part O: the simulation of a drawn region. -/
import Derived.Test.YtehahpnpandppaaAbsN
set_option linter.unusedVariables false
set_option linter.unusedSimpArgs false
namespace Go.Abs
open Go

def ex (listed : Array Bool) (i : Nat) : Bool := listed.getD i false

/-- How things stand in the middle of the region. -/
structure Inv (P : Program) (N : Nat) (B base : Nat) (ops : Array Oper) (C M0 : List Nat) (T0 : List Ent) (listed : Array Bool) (fr : Fr) (σ : AHeap) (φ : BMap) (w : World) (a : Act) : Prop where
  size : listed.size = ops.size
  nodup : C.Nodup
  bound : ∀ i ∈ C, i < ops.size
  done : ∀ i, i < ops.size → i ∉ C → ex listed i = true
  inM : ∀ i ∈ C, ex listed i = true → i ∈ M0
  closed : ∀ i, ex listed i = true → ∀ p ∈ predsOf ops i, ex listed p = true
  lin : ∀ C1 i C2, C = C1 ++ i :: C2 → ∀ p ∈ predsOf ops i, p < ops.size ∧ p ∉ i :: C2
  tmps : a.tmps.size = N
  slots : ∀ e ∈ T0, ex listed e.i = true → ∀ d, e.o.dst = some d → ∃ v', a.tmps[d]? = some v' ∧ RV φ e.v v'
  rest : ∀ t v, aget fr t = some v → (∀ e ∈ T0, ex listed e.i = true → e.o.dst ≠ some t) → ∃ v', a.tmps[t]? = some v' ∧ RV φ v v'
  heap : RH P φ (setT base σ (T0.filter fun e => ex listed e.i)) w B
  fresh : ∀ i ∈ C, ex listed i = false → φ (base + i) = none
  dead : ∀ i ∈ C, σ.blk (base + i) = none
  next : base + ops.size ≤ σ.next

theorem ex_set {listed : Array Bool} {i j : Nat} (hi : i < listed.size) : ex (listed.setIfInBounds i true) j = (decide (j = i) || ex listed j) := by
  unfold ex
  by_cases h : i = j
  · subst h; simp [hi]
  · have h' : ¬ j = i := fun e => h e.symm
    simp [Array.getElem?_setIfInBounds_ne h, h', Array.getD_eq_getD_getElem?]

theorem getD_true_of {listed : Array Bool} {i : Nat} (hi : i < listed.size) (h : listed.getD i true = false) : ex listed i = false := by
  unfold ex
  simp only [Array.getD_eq_getD_getElem?, Array.getElem?_eq_getElem hi, Option.getD_some] at h ⊢
  exact h

theorem ready_spec {ops : Array Oper} {listed : Array Bool} {i : Nat} (hsz : listed.size = ops.size) (h : i ∈ Region.ready .any ops listed) : i < ops.size ∧ ex listed i = false ∧ ∀ p ∈ predsOf ops i, ex listed p = true := by
  simp only [Region.ready, List.mem_filter, List.mem_range, Bool.and_eq_true, Bool.not_eq_true'] at h
  obtain ⟨h1, h2, h3⟩ := h
  refine ⟨h1, getD_true_of (by omega) h2, fun p hp => ?_⟩
  have ho : ops[i]? = some ops[i] := Array.getElem?_eq_getElem h1
  simp only [ho, Option.map_some, Option.getD_some, Array.all_eq_true'] at h3
  simp only [predsOf, ho, List.mem_map, List.mem_filter] at hp
  obtain ⟨e, ⟨he, hb⟩, rfl⟩ := hp
  have := h3 e (by simpa using he)
  rw [hb] at this
  simpa [ex] using this

theorem ready_of {ops : Array Oper} {listed : Array Bool} {i : Nat} (hsz : listed.size = ops.size) (hi : i < ops.size) (hne : ex listed i = false) (hp : ∀ p ∈ predsOf ops i, ex listed p = true) : i ∈ Region.ready .any ops listed := by
  simp only [Region.ready, List.mem_filter, List.mem_range, Bool.and_eq_true, Bool.not_eq_true']
  refine ⟨hi, ?_, ?_⟩
  · unfold ex at hne
    simp only [Array.getD_eq_getD_getElem?, Array.getElem?_eq_getElem (show i < listed.size by omega), Option.getD_some] at hne ⊢
    exact hne
  · have ho : ops[i]? = some ops[i] := Array.getElem?_eq_getElem hi
    simp only [ho, Option.map_some, Option.getD_some, Array.all_eq_true']
    intro e he
    cases hb : Region.binds .any e with
    | false => rfl
    | true =>
      simp only [Bool.not_true, Bool.false_or]
      exact hp e.on (by simp only [predsOf, ho, List.mem_map, List.mem_filter]; exact ⟨e, ⟨by simpa using he, hb⟩, rfl⟩)

section
variable {P : Program} {N B base : Nat} {ops : Array Oper} {C M0 : List Nat} {T0 : List Ent} {listed : Array Bool} {fr : Fr} {σ : AHeap} {φ : BMap} {w : World} {a : Act}

/-- As long as something is left, something is ready. -/
theorem Inv.progress (h : Inv P N B base ops C M0 T0 listed fr σ φ w a) (hno : Region.ready .any ops listed = []) : ∀ i ∈ C, ex listed i = true := by
  have key : ∀ (C2 C1 : List Nat), C = C1 ++ C2 → (∀ i ∈ C1, ex listed i = true) → ∀ i ∈ C2, ex listed i = true := by
    intro C2
    induction C2 with
    | nil => intro C1 _ _ i hi; cases hi
    | cons j C2 ih =>
      intro C1 hC h1
      have hj : ex listed j = true := by
        cases hx : ex listed j with
        | true => rfl
        | false =>
          have hmem : j ∈ Region.ready .any ops listed := by
            refine ready_of h.size (h.bound j (by rw [hC]; simp)) hx fun p hp => ?_
            obtain ⟨hps, hpn⟩ := h.lin C1 j C2 hC p hp
            by_cases hpC : p ∈ C
            · rw [hC, List.mem_append] at hpC
              rcases hpC with hpC | hpC
              · exact h1 p hpC
              · exact absurd hpC hpn
            · exact h.done p hps hpC
          rw [hno] at hmem; cases hmem
      intro i hi
      cases hi with
      | head => exact hj
      | tail _ hi => exact ih (C1 ++ [j]) (by rw [hC]; simp) (fun k hk => by rw [List.mem_append, List.mem_singleton] at hk; rcases hk with hk | rfl; exact h1 k hk; exact hj) i hi
  exact key C [] rfl (fun i hi => by cases hi)

/-- What is done ahead lies in a heap that has it and the heap itself. -/
theorem Inv.sub (h : Inv P N B base ops C M0 T0 listed fr σ φ w a) (hidx : T0.map (·.i) = M0) (hM : ∀ i ∈ M0, i ∈ C) : Sub σ (setT base σ (T0.filter fun e => ex listed e.i)) := by
  intro b x hb
  rw [setT_none]
  · exact hb
  · intro e he _ heq
    have hi : e.i ∈ C := hM _ (by rw [← hidx]; exact List.mem_map.2 ⟨e, (List.mem_filter.1 he).1, rfl⟩)
    rw [heq, h.dead _ hi] at hb; cases hb
end

theorem dst_of_sget {ops : Array Oper} {i : Nat} {o : SOp} (h : sget (ops.toList.map slim) i = some o) : ∃ oo, ops[i]? = some oo ∧ slim oo = o ∧ dstOf ops i = o.dst := by
  rw [sget_get, List.getElem?_map, Option.map_eq_some_iff] at h
  obtain ⟨oo, ho, rfl⟩ := h
  have ho' : ops[i]? = some oo := by simpa using ho
  exact ⟨oo, ho', rfl, by simp [dstOf, ho', slim]⟩

/-- A frame that knows what an operation looks at. -/
theorem Inv.look {P : Program} {N B base : Nat} {ops : Array Oper} {C M0 : List Nat} {T0 : List Ent} {listed : Array Bool} {fr : Fr} {σ : AHeap} {φ : BMap} {w : World} {a : Act} (h : Inv P N B base ops C M0 T0 listed fr σ φ w a)
    {i : Nat} {T1 : List Ent} (h1 : ∀ e ∈ T1, e ∈ T0) (hL : ∀ e ∈ T0, dstOf ops e.i = e.o.dst)
    (hpre : ∀ e ∈ T1, seesB ops i e.i = true → ex listed e.i = true) (hpost : ∀ e ∈ T0, ex listed e.i = true → seesB ops i e.i = true → e ∈ T1) :
    RF φ N (only (putT fr T1) (looksOf ops i)) a.tmps := by
  refine ⟨h.tmps, fun t v hv => ?_⟩
  obtain ⟨ht, hv⟩ := only_get hv
  rcases putT_get hv with ⟨e, he, hd, rfl⟩ | ⟨hno, hv⟩
  · have hs : seesB ops i e.i = true := sees_of ht (by rw [hL e (h1 e he)]; exact hd)
    exact h.slots e (h1 e he) (hpre e he hs) t hd
  · refine h.rest t v hv fun e he hex hd => ?_
    have hs : seesB ops i e.i = true := sees_of ht (by rw [hL e he]; exact hd)
    exact hno e (hpost e he hex hs) hd

theorem put_size (a : Act) (dst : Option Tmp) (v : Value) : (a.put dst v).tmps.size = a.tmps.size := by cases dst <;> simp [Act.put]
theorem put_other {a : Act} {dst : Option Tmp} {v : Value} {t : Nat} (h : dst ≠ some t) : (a.put dst v).tmps[t]? = a.tmps[t]? := by
  cases dst with
  | none => rfl
  | some d =>
    have : d ≠ t := fun e => h (by rw [e])
    simp [Act.put, Array.getElem?_setIfInBounds_ne this]
theorem put_same {a : Act} {d : Tmp} {v : Value} (h : d < a.tmps.size) : (a.put (some d) v).tmps[d]? = some v := by simp [Act.put, h]

theorem mem_idx {T : List Ent} {l : List Nat} (h : T.map (·.i) = l) {e : Ent} (he : e ∈ T) : e.i ∈ l := by rw [← h]; exact List.mem_map.2 ⟨e, he, rfl⟩
theorem idx_mem {T : List Ent} {l : List Nat} (h : T.map (·.i) = l) {i : Nat} (hi : i ∈ l) : ∃ e ∈ T, e.i = i := by rw [← h] at hi; exact List.mem_map.1 hi
theorem idx_inj {T : List Ent} (hn : (T.map (·.i)).Nodup) {e e' : Ent} (he : e ∈ T) (he' : e' ∈ T) (h : e.i = e'.i) : e = e' := by
  induction T with
  | nil => cases he
  | cons x T ih =>
    simp only [List.map_cons, List.nodup_cons] at hn
    cases he with
    | head =>
      cases he' with
      | head => rfl
      | tail _ he' => exact absurd (List.mem_map.2 ⟨e', he', h.symm⟩) hn.1
    | tail _ he =>
      cases he' with
      | head => exact absurd (List.mem_map.2 ⟨e, he, h⟩) hn.1
      | tail _ he' => exact ih hn.2 he he'

/-- AN OPERATION WITHOUT EFFECT, in its turn or ahead of it. -/
theorem Inv.quiet {P : Program} {ro : Option Nat} {N B base : Nat} {ops : Array Oper} {C M0 : List Nat} {T0 : List Ent} {listed : Array Bool} {fr : Fr} {σ : AHeap} {φ : BMap} {w : World} {a : Act} {b : Frame} {rst : List Nat} {k : List Item} {cs : List Frame}
    (h : Inv P N B base ops C M0 T0 listed fr σ φ w a) (hr : nrun P N (ops.toList.map (·.dst)) (ops.toList.map slim) base σ M0 fr = some T0) (hM : ∀ i ∈ M0, i ∈ C) (hMn : M0.Nodup) (hssa : ssaB ops M0 = true) (hdef : ∀ (j : Nat) (o : Oper), ops[j]? = some o → notDefer o = true)
    {i : Nat} (hi : i ∈ M0) (hne : ex listed i = false) (hp : ∀ p ∈ predsOf ops i, ex listed p = true) :
    ∃ a' w' φ', step P (lone (fat b a ro (.inRegion ops (i :: rst) :: k)) cs w) = .next (lone (fat b a' ro (.inRegion ops rst :: k)) cs w') ∧ a'.defers = a.defers ∧
      Inv P N B base ops C M0 T0 (listed.setIfInBounds i true) fr σ φ' w' a' ∧ Step base φ (setT base σ (T0.filter fun e => ex listed e.i)) w φ' (setT base σ (T0.filter fun e => ex (listed.setIfInBounds i true) e.i)) w' := by
  have hidx := nrun_idx hr
  have hTn : (T0.map (·.i)).Nodup := by rw [hidx]; exact hMn
  have hisz : i < ops.size := h.bound i (hM i hi)
  have hils : i < listed.size := by rw [h.size]; exact hisz
  obtain ⟨ent, hent, hei⟩ := idx_mem hidx hi
  obtain ⟨T1, T2, hsplit⟩ := List.append_of_mem hent
  obtain ⟨ho, hv⟩ := nrun_at hr hsplit
  rw [hei] at ho hv
  have hspl : M0 = T1.map (·.i) ++ i :: T2.map (·.i) := by rw [← hidx, hsplit, List.map_append, List.map_cons, hei]
  obtain ⟨ssa2, ssa1⟩ := ssa_spec hssa _ _ _ hspl
  obtain ⟨oo, hoo, hslim, hdst⟩ := dst_of_sget ho
  have hLd : ∀ e ∈ T0, dstOf ops e.i = e.o.dst := fun e he => by
    obtain ⟨U1, U2, hs⟩ := List.append_of_mem he
    obtain ⟨ho', _⟩ := nrun_at hr hs
    obtain ⟨_, _, _, hd⟩ := dst_of_sget ho'; exact hd
  have hlook : RF φ N (only (putT fr T1) (looksOf ops i)) a.tmps := by
    refine h.look (fun e he => by rw [hsplit]; exact List.mem_append_left _ he) hLd (fun e he hs => hp _ ((ssa1 e.i (List.mem_map.2 ⟨e, he, rfl⟩)).2 hs)) (fun e he hex hs => ?_)
    rw [hsplit, List.mem_append, List.mem_cons] at he
    rcases he with he | rfl | he
    · exact he
    · rw [hei, hne] at hex; cases hex
    · have := (ssa2 e.i (List.mem_map.2 ⟨e, he, rfl⟩)).2; rw [this] at hs; cases hs
  have hdd : ent.o.dst = oo.dst := by rw [← hslim]; rfl
  have hgd : ent.o.guard = oo.guard := by rw [← hslim]; rfl
  have hop : ent.o.op = oo.op := by rw [← hslim]; rfl
  have hsub := h.sub hidx hM
  -- the step, the value, and what becomes of heap and world
  have main : dstOk N ent.o.dst = true ∧ ∃ v' w' φ', step P (lone (fat b a ro (.inRegion ops (i :: rst) :: k)) cs w) = .next (lone (fat b (a.put oo.dst v') ro (.inRegion ops rst :: k)) cs w') ∧ RV φ' ent.v v' ∧
      ∃ τ, RH P φ' τ w' B ∧ OStep (base + i) φ (setT base σ (T0.filter fun e => ex listed e.i)) w φ' τ w' ∧ (∀ x, ent.nb = some x → τ.blk (base + i) = some x) ∧ (∀ c y, c ≠ base + i → (setT base σ (T0.filter fun e => ex listed e.i)).blk c = some y → τ.blk c = some y) := by
    unfold nval at hv
    split at hv
    · rename_i hd hw
      injection hv with hv
      have e1 : (Value.tuple #[]) = ent.v := congrArg Prod.fst hv
      have e2 : none = ent.nb := congrArg Prod.snd hv
      refine ⟨hd, undef, w, φ, ?_, by rw [← e1]; exact undef_rv φ, _, h.heap, .refl _ _ _ _, (fun x hx => by rw [← e2] at hx; cases hx), fun c y _ hy => hy⟩
      rw [hgd] at hw
      rw [← only_wanted hoo] at hw
      have hwant := awanted_ok hlook hw
      have := step_skipop (P := P) (b := b) (ro := ro) (a := a) (k := k) (cs := cs) (w := w) (ops := ops) (i := i) (rest := rst) (by simp [hoo, hwant])
      rw [hoo] at this; exact this
    · rename_i hd hw
      split at hv
      · rename_i q hq
        split at hv
        · rename_i v τ hex
          injection hv with hv
          have e1 : v = ent.v := congrArg Prod.fst hv
          have e2 : (cond q none (τ.blk (base + i))) = ent.nb := congrArg Prod.snd hv
          subst e1
          refine ⟨hd, ?_⟩
          rw [hgd] at hw
          rw [← only_wanted hoo] at hw
          have hwant := awanted_ok hlook hw
          rw [hop] at hex hq
          rw [← only_exec hoo] at hex
          have hid : φ (base + i) = none := h.fresh i (hM i hi) hne
          have hlt : base + i < (setT base σ (T0.filter fun e => ex listed e.i)).next := by rw [setT_next]; have := h.next; omega
          have hd' := hdef i oo hoo
          cases q with
          | true =>
            obtain ⟨_, hex'⟩ := quiet_exec (id' := base + i) hq hsub hex
            obtain ⟨v', w', φ', c1, c2, c3, c4⟩ := aexec_ok (o := oo) h.heap hlook hid hlt hex'
            exact ⟨v', w', φ', step_value hoo hwant hd' c1, c2, _, c3, c4, (fun x hx => by rw [← e2] at hx; cases hx), fun c y _ hy => hy⟩
          | false =>
            obtain ⟨x, hτ, hall⟩ := new_exec hq hex
            obtain ⟨v', w', φ', c1, c2, c3, c4⟩ := aexec_ok (o := oo) h.heap hlook hid hlt (hall _)
            refine ⟨v', w', φ', step_value hoo hwant hd' c1, c2, _, c3, c4, fun y hy => ?_, fun c y hc hy => ?_⟩
            · rw [← e2] at hy; simp only [cond] at hy
              rw [hτ, AHeap.set_blk, if_pos rfl] at hy
              rw [AHeap.set_blk, if_pos rfl]; exact hy
            · rw [AHeap.set_blk, if_neg hc]; exact hy
        · cases hv
      · cases hv
    · cases hv
  obtain ⟨hdok, v', w', φ', hstep, hrv, τ, hτ, hos, hnew, hold⟩ := main
  have hexs : ∀ j, ex (listed.setIfInBounds i true) j = (decide (j = i) || ex listed j) := fun j => ex_set hils
  -- the heap that is looked at afterwards
  have hsub' : Sub (setT base σ (T0.filter fun e => ex (listed.setIfInBounds i true) e.i)) τ := by
    intro c y hc
    rcases setT_blk _ _ _ _ hc with ⟨e, he, hce, hnb⟩ | ⟨hno, hc'⟩
    · obtain ⟨he1, he2⟩ := List.mem_filter.1 he
      rw [hexs] at he2
      by_cases hcase : e.i = i
      · have : e = ent := idx_inj hTn he1 hent (by rw [hcase, hei])
        subst this
        rw [hce, hcase]; exact hnew y hnb
      · have he2' : ex listed e.i = true := by simpa [hcase] using he2
        refine hold c y (by omega) ?_
        rw [hce]
        have hsublist : (T0.filter fun e => ex listed e.i).map (·.i) |>.Nodup := by
          refine List.Nodup.sublist ?_ hTn
          exact (List.filter_sublist).map _
        exact setT_mem _ _ e y (List.mem_filter.2 ⟨he1, he2'⟩) hnb hsublist
    · refine hold c y (fun hh => ?_) (hsub c y hc')
      rw [hh, h.dead i (hM i hi)] at hc'; cases hc'
  have hnext : (setT base σ (T0.filter fun e => ex (listed.setIfInBounds i true) e.i)).next = τ.next := by rw [hos.next, setT_next, setT_next]
  refine ⟨a.put oo.dst v', w', φ', hstep, act_put_defers _ _ _, ?_, ?_⟩
  · refine ⟨by simp [h.size], h.nodup, h.bound, fun j hj hjC => by rw [hexs, h.done j hj hjC]; simp, fun j hj hx => ?_, fun j hx p hpj => ?_, h.lin, by rw [put_size]; exact h.tmps, fun e he hx d hd => ?_, fun t u hu hno => ?_, hτ.sub hsub' hnext, fun j hj hx => ?_, h.dead, h.next⟩
    · rw [hexs] at hx
      by_cases hcase : j = i
      · subst hcase; exact hi
      · exact h.inM j hj (by simpa [hcase] using hx)
    · rw [hexs] at hx ⊢
      by_cases hcase : j = i
      · subst hcase; rw [hp p hpj]; simp
      · rw [h.closed j (by simpa [hcase] using hx) p hpj]; simp
    · rw [hexs] at hx
      by_cases hcase : e.i = i
      · have : e = ent := idx_inj hTn he hent (by rw [hcase, hei])
        subst this
        refine ⟨v', ?_, hrv⟩
        rw [← hdd, hd]
        rw [hd] at hdok
        exact put_same (by rw [h.tmps]; simpa [dstOk] using hdok)
      · obtain ⟨u', h1, h2⟩ := h.slots e he (by simpa [hcase] using hx) d hd
        refine ⟨u', ?_, h2.ext hos.ext⟩
        rw [put_other]; · exact h1
        intro hh
        -- the destinations differ
        have hsame : sameDstB ops i e.i = false := by
          rw [hsplit, List.mem_append, List.mem_cons] at he
          rcases he with he | rfl | he
          · have := (ssa1 e.i (List.mem_map.2 ⟨e, he, rfl⟩)).1
            cases hs : sameDstB ops i e.i with
            | false => rfl
            | true =>
              exfalso
              have hde := hLd e (by rw [hsplit]; exact List.mem_append_left _ he)
              rw [same_of (t := d) (by rw [hde]; exact hd) (by rw [hdst, hdd]; exact hh)] at this; cases this
          · exact absurd hei hcase
          · exact (ssa2 e.i (List.mem_map.2 ⟨e, he, rfl⟩)).1
        rw [same_of (t := d) (by rw [hdst, hdd]; exact hh) (by rw [hLd e he]; exact hd)] at hsame; cases hsame
    · have hne' : oo.dst ≠ some t := by
        rw [← hdd]; exact hno ent hent (by rw [hexs, hei]; simp)
      obtain ⟨u', h1, h2⟩ := h.rest t u hu (fun e he hx => hno e he (by rw [hexs, hx]; simp))
      exact ⟨u', by rw [put_other hne']; exact h1, h2.ext hos.ext⟩
    · rw [hexs] at hx
      simp only [Bool.or_eq_false_iff, decide_eq_false_iff_not] at hx
      rw [hos.old _ (by omega)]; exact h.fresh j hj hx.2
  · refine ⟨hos.ext, fun c hc => hos.old c (by omega), by rw [setT_next, setT_next]; exact Nat.le_refl _, hos.os, hos.tape, hos.output, hos.size, hos.kept, fun g hg ho => hos.own g hg (ho.sub hsub'), fun c hc hd => ?_, fun c x hx hxr => hos.ro c x (hsub' c x hx) hxr⟩
    have hτc := hos.dead c (by omega) hd
    cases hx : (setT base σ (T0.filter fun e => ex (listed.setIfInBounds i true) e.i)).blk c with
    | none => rfl
    | some y => rw [hsub' c y hx] at hτc; cases hτc

end Go.Abs
