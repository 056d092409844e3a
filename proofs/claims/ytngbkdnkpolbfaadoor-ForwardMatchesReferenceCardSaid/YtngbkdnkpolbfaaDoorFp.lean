/- Plain facts on orders that count, on ways and on circles. No program in sight. Under no condition. -/
namespace Go.Proofs.YtngbkdnkpolbfaaDoor

section
variable {α β : Type} [DecidableEq α] (fr to : β → α) (nw : β → β → Bool) (act : β → Bool)

/-- newer is a strict order -/
structure SO : Prop where
  irr : ∀ a, nw a a = false
  tr : ∀ a b c, nw a b = true → nw b c = true → nw a c = true
variable {nw} in
theorem SO.asy (h : SO nw) {a b : β} (h1 : nw a b = true) : nw b a = false := by
  cases h2 : nw b a
  · rfl
  · have := h.tr a b a h1 h2; rw [h.irr] at this; cases this

/-- one order more -/
def cntStep (f : α → Option β) (o : β) : α → Option β :=
  if (act o && (match f (fr o) with | none => true | some old => nw o old)) = true then fun x => if x = fr o then some o else f x else f
/-- the orders that count -/
def cnt (l : List β) : α → Option β := l.foldl (cntStep fr nw act) (fun _ => none)
theorem cnt_snoc (l : List β) (o : β) : cnt fr nw act (l ++ [o]) = cntStep fr nw act (cnt fr nw act l) o := by unfold cnt; rw [List.foldl_append]; rfl
/-- the newest one of those from an entrance -/
def Newest (l : List β) (x : α) (o : β) : Prop := o ∈ l ∧ act o = true ∧ fr o = x ∧ ∀ o' ∈ l, act o' = true → fr o' = x → nw o' o = false
theorem rev_ind {P : List β → Prop} (h0 : P []) (h1 : ∀ l o, P l → P (l ++ [o])) (l : List β) : P l := by
  have : ∀ r : List β, P r.reverse := by
    intro r
    induction r with
    | nil => exact h0
    | cons a r ih => rw [List.reverse_cons]; exact h1 _ _ ih
  have h := this l.reverse
  rwa [List.reverse_reverse] at h
theorem cnt_spec (hs : SO nw) (l : List β) : (∀ x, cnt fr nw act l x = none → ∀ o ∈ l, act o = true → fr o ≠ x) ∧ (∀ x o, cnt fr nw act l x = some o → Newest fr nw act l x o) := by
  induction l using rev_ind with
  | h0 => exact ⟨(fun x _ o ho => by cases ho), (fun x o h => by cases h)⟩
  | h1 l p ih =>
    obtain ⟨i1, i2⟩ := ih
    rw [cnt_snoc]
    by_cases hc : (act p && (match cnt fr nw act l (fr p) with | none => true | some old => nw p old)) = true
    · have hstep : cntStep fr nw act (cnt fr nw act l) p = fun x => if x = fr p then some p else cnt fr nw act l x := by unfold cntStep; rw [if_pos hc]
      rw [hstep]
      rw [Bool.and_eq_true] at hc
      obtain ⟨ha, hold⟩ := hc
      constructor
      · intro x hx o ho hao
        by_cases e : x = fr p
        · simp [e] at hx
        · simp only [e, if_false] at hx
          rcases List.mem_append.1 ho with ho | ho
          · exact i1 x hx o ho hao
          · rw [List.mem_singleton.1 ho]; exact fun h => e h.symm
      · intro x o hx
        by_cases e : x = fr p
        · simp only [e, if_true, Option.some.injEq] at hx
          subst hx
          refine ⟨by simp, ha, e.symm, fun o' ho' ha' hf' => ?_⟩
          rcases List.mem_append.1 ho' with ho' | ho'
          · cases hq : cnt fr nw act l (fr p) with
            | none => exact absurd (hf'.trans e) (i1 _ hq o' ho' ha')
            | some old =>
              rw [hq] at hold
              have hn := (i2 _ _ hq).2.2.2 o' ho' ha' (hf'.trans e)
              cases hx : nw o' p
              · rfl
              · have := hs.tr _ _ _ hx hold; rw [hn] at this; cases this
          · rw [List.mem_singleton.1 ho']; exact hs.irr _
        · simp only [e, if_false] at hx
          obtain ⟨m, a, f, b⟩ := i2 x o hx
          refine ⟨by simp [m], a, f, fun o' ho' ha' hf' => ?_⟩
          rcases List.mem_append.1 ho' with ho' | ho'
          · exact b o' ho' ha' hf'
          · rw [List.mem_singleton.1 ho'] at hf'; exact absurd hf'.symm e
    · have hstep : cntStep fr nw act (cnt fr nw act l) p = cnt fr nw act l := by unfold cntStep; rw [if_neg hc]
      rw [hstep]
      constructor
      · intro x hx o ho hao
        rcases List.mem_append.1 ho with ho | ho
        · exact i1 x hx o ho hao
        · rw [List.mem_singleton.1 ho] at hao ⊢
          intro e
          rw [e, hx, hao] at hc
          simp at hc
      · intro x o hx
        obtain ⟨m, a, f, b⟩ := i2 x o hx
        refine ⟨by simp [m], a, f, fun o' ho' ha' hf' => ?_⟩
        rcases List.mem_append.1 ho' with ho' | ho'
        · exact b o' ho' ha' hf'
        · rw [List.mem_singleton.1 ho'] at ha' hf' ⊢
          rw [hf', hx, ha'] at hc
          simpa using hc
/-- of two orders one is newer -/
def Tot (l : List β) : Prop := ∀ a ∈ l, ∀ b ∈ l, a ≠ b → nw a b = true ∨ nw b a = true
 omit [DecidableEq α] in
theorem newest_uniq {l : List β} (ht : Tot nw l) {x : α} {a b : β} (ha : Newest fr nw act l x a) (hb : Newest fr nw act l x b) : a = b := by
  refine Classical.byContradiction fun hne => ?_
  rcases ht a ha.1 b hb.1 hne with h | h
  · rw [hb.2.2.2 a ha.1 ha.2.1 ha.2.2.1] at h; cases h
  · rw [ha.2.2.2 b hb.1 hb.2.1 hb.2.2.1] at h; cases h
theorem cnt_some (hs : SO nw) {l : List β} (ht : Tot nw l) {x : α} {o : β} (h : Newest fr nw act l x o) : cnt fr nw act l x = some o := by
  obtain ⟨i1, i2⟩ := cnt_spec fr nw act hs l
  cases hc : cnt fr nw act l x with
  | none => exact absurd h.2.2.1 (i1 x hc o h.1 h.2.1)
  | some p => rw [newest_uniq fr nw act ht (i2 x p hc) h]
theorem cnt_none (hs : SO nw) {l : List β} {x : α} (h : ∀ o ∈ l, act o = true → fr o ≠ x) : cnt fr nw act l x = none := by
  obtain ⟨_, i2⟩ := cnt_spec fr nw act hs l
  cases hc : cnt fr nw act l x with
  | none => rfl
  | some p => obtain ⟨a, b, c, _⟩ := i2 x p hc; exact absurd c (h p a b)
/-- other lists in which the same orders are newest -/
theorem cnt_same (hs : SO nw) {l r : List β} (ht : Tot nw l) (hsub : ∀ o ∈ r, o ∈ l) (hkeep : ∀ x o, Newest fr nw act l x o → o ∈ r) : cnt fr nw act r = cnt fr nw act l := by
  have htr : Tot nw r := fun a ha b hb hne => ht a (hsub a ha) b (hsub b hb) hne
  obtain ⟨i1, i2⟩ := cnt_spec fr nw act hs l
  funext x
  cases hc : cnt fr nw act l x with
  | none => exact cnt_none fr nw act hs (fun o ho ha => i1 x hc o (hsub o ho) ha)
  | some p =>
    have hp := i2 x p hc
    exact cnt_some fr nw act hs htr ⟨hkeep x p hp, hp.2.1, hp.2.2.1, fun o' ho' ha' hf' => hp.2.2.2 o' (hsub o' ho') ha' hf'⟩

end
section
variable {α β : Type} (fr to : β → α) (nw : β → β → Bool)
/-- the newest one of a list, from one on -/
def best (b : β) (l : List β) : β := l.foldl (fun b x => if nw x b = true then x else b) b
theorem best_cons (b x : β) (l : List β) : best nw b (x :: l) = best nw (if nw x b = true then x else b) l := rfl
theorem best_snoc (b x : β) (l : List β) : best nw b (l ++ [x]) = if nw x (best nw b l) = true then x else best nw b l := by unfold best; rw [List.foldl_append]; rfl
theorem best_mem (l : List β) : ∀ b, best nw b l = b ∨ best nw b l ∈ l := by
  induction l with
  | nil => intro b; exact Or.inl rfl
  | cons x l ih =>
    intro b
    rw [best_cons]
    rcases ih (if nw x b = true then x else b) with h | h
    · rw [h]
      split
      · right; simp
      · left; rfl
    · right; simp [h]
theorem best_max (hs : SO nw) (l : List β) : ∀ b, nw b (best nw b l) = false ∧ ∀ o ∈ l, nw o (best nw b l) = false := by
  induction l using rev_ind with
  | h0 => intro b; exact ⟨hs.irr b, fun o ho => by cases ho⟩
  | h1 l p ih =>
    intro b
    obtain ⟨i1, i2⟩ := ih b
    rw [best_snoc]
    by_cases h : nw p (best nw b l) = true
    · rw [if_pos h]
      refine ⟨?_, fun o ho => ?_⟩
      · cases hx : nw b p
        · rfl
        · have := hs.tr _ _ _ hx h; rw [i1] at this; cases this
      · rcases List.mem_append.1 ho with ho | ho
        · cases hx : nw o p
          · rfl
          · have := hs.tr _ _ _ hx h; rw [i2 o ho] at this; cases this
        · rw [List.mem_singleton.1 ho]; exact hs.irr p
    · rw [if_neg h]
      refine ⟨i1, fun o ho => ?_⟩
      rcases List.mem_append.1 ho with ho | ho
      · exact i2 o ho
      · rw [List.mem_singleton.1 ho]; simpa using h
/-- the newest one does not depend on the order of the list -/
theorem best_same (hs : SO nw) {L : List β} (ht : Tot nw L) {b b' : β} {l l' : List β} (h1 : ∀ o ∈ b :: l, o ∈ L) (h2 : ∀ o ∈ b' :: l', o ∈ L) (h : ∀ o, o ∈ b :: l ↔ o ∈ b' :: l') : best nw b l = best nw b' l' := by
  have m1 : best nw b l ∈ b :: l := by rcases best_mem nw l b with e | e <;> simp [e]
  have m2 : best nw b' l' ∈ b' :: l' := by rcases best_mem nw l' b' with e | e <;> simp [e]
  obtain ⟨x1, x2⟩ := best_max nw hs l b
  obtain ⟨y1, y2⟩ := best_max nw hs l' b'
  have k1 : ∀ o ∈ b :: l, nw o (best nw b l) = false := fun o ho => by
    rcases List.mem_cons.1 ho with rfl | ho
    · exact x1
    · exact x2 o ho
  have k2 : ∀ o ∈ b' :: l', nw o (best nw b' l') = false := fun o ho => by
    rcases List.mem_cons.1 ho with rfl | ho
    · exact y1
    · exact y2 o ho
  refine Classical.byContradiction fun hne => ?_
  rcases ht _ (h1 _ m1) _ (h2 _ m2) hne with e | e
  · rw [k2 _ ((h _).1 m1)] at e; cases e
  · rw [k1 _ ((h _).2 m2)] at e; cases e

/-- a way: each order counts for the entrance to which the one before leads -/
def Chain (c : α → Option β) : α → List β → Prop
  | _, [] => True
  | x, o :: l => c x = some o ∧ Chain c (to o) l
/-- where a way leads -/
def endAt : α → List β → α
  | x, [] => x
  | _, o :: l => endAt (to o) l
theorem endAt_snoc (x : α) (l : List β) (o : β) : endAt to x (l ++ [o]) = to o := by
  induction l generalizing x with
  | nil => rfl
  | cons p l ih => exact ih (to p)
theorem chain_app (c : α → Option β) (x : α) (l r : List β) : Chain to c x (l ++ r) ↔ Chain to c x l ∧ Chain to c (endAt to x l) r := by
  induction l generalizing x with
  | nil => simp [Chain, endAt]
  | cons p l ih => simp only [List.cons_append, Chain, endAt, ih, and_assoc]
theorem endAt_app (x : α) (l r : List β) : endAt to x (l ++ r) = endAt to (endAt to x l) r := by
  induction l generalizing x with
  | nil => rfl
  | cons p l ih => exact ih (to p)
/-- how a way from an entrance ends: where the mail goes -/
def Ends (c : α → Option β) (x : α) (way : List β) (t : α) : Prop :=
  Chain to c x way ∧ (way.map fr).Nodup ∧
  ((c (endAt to x way) = none ∧ t = endAt to x way) ∨
   (∃ pre o post, way = pre ++ o :: post ∧ endAt to x way = fr o ∧ t = to (best nw o post)))
/-- orders that count stand at their own entrance -/
def Own (c : α → Option β) : Prop := ∀ x o, c x = some o → fr o = x
theorem chain_fr {c : α → Option β} (hc : Own fr c) {x : α} {o : β} {l : List β} (h : Chain to c x (o :: l)) : fr o = x := hc x o h.1
/-- every order of a way counts for its own entrance -/
theorem chain_mem {c : α → Option β} (hc : Own fr c) {l : List β} : ∀ {x : α}, Chain to c x l → ∀ o ∈ l, c (fr o) = some o := by
  induction l with
  | nil => intro x _ o ho; cases ho
  | cons p l ih =>
    intro x h o ho
    rcases List.mem_cons.1 ho with rfl | ho
    · rw [hc x o h.1]; exact h.1
    · exact ih h.2 o ho
/-- the mail goes where it goes from the next entrance -/
theorem ends_next (hs : SO nw) {L : List β} (ht : Tot nw L) {c : α → Option β} (hc : Own fr c) (hL : ∀ x o, c x = some o → o ∈ L) {x t : α} {way : List β} (h : Ends fr to nw c x way t) {o : β} (ho : c x = some o) : ∃ way', Ends fr to nw c (to o) way' t := by
  obtain ⟨h1, h2, h3⟩ := h
  cases way with
  | nil =>
    exfalso
    rcases h3 with ⟨e, _⟩ | ⟨pre, p, post, e, _⟩
    · rw [show endAt to x [] = x from rfl, ho] at e; cases e
    · cases pre <;> cases e
  | cons p rest =>
    obtain ⟨hp, hch⟩ := h1
    obtain rfl : p = o := by rw [ho] at hp; exact (Option.some.inj hp).symm
    rw [List.map_cons, List.nodup_cons] at h2
    obtain ⟨hn, hnd⟩ := h2
    rcases h3 with ⟨e1, e2⟩ | ⟨pre, q, post, e, e1, e2⟩
    · exact ⟨rest, hch, hnd, Or.inl ⟨e1, e2⟩⟩
    · cases pre with
      | cons r pre =>
        rw [List.cons_append] at e
        have e' : rest = pre ++ q :: post := (List.cons.inj e).2
        exact ⟨rest, hch, hnd, Or.inr ⟨pre, q, post, e', e1, e2⟩⟩
      | nil =>
        rw [List.nil_append] at e
        obtain ⟨rfl, rfl⟩ := List.cons.inj e
        have e1' : endAt to (to p) rest = fr p := e1
        have hx : fr p = x := hc x p ho
        have hch' : Chain to c (to p) (rest ++ [p]) := (chain_app to c _ _ _).2 ⟨hch, by rw [e1']; exact ⟨by rw [hx]; exact ho, trivial⟩⟩
        have hnd' : ((rest ++ [p]).map fr).Nodup := by
          rw [List.map_append, List.nodup_append]
          refine ⟨hnd, by simp, fun a ha b hb => ?_⟩
          rw [List.map_singleton, List.mem_singleton] at hb
          subst hb
          exact fun e => hn (e ▸ ha)
        have hmL : ∀ z ∈ p :: rest, z ∈ L := fun z hz => by
          have := chain_mem fr to hc (x := x) (l := p :: rest) ⟨ho, hch⟩ z hz
          exact hL _ _ this
        have hend : endAt to (to p) (rest ++ [p]) = to p := endAt_snoc to _ _ _
        cases rest with
        | nil =>
          refine ⟨[p], hch', hnd', Or.inr ⟨[], p, [], rfl, ?_, e2⟩⟩
          exact e1'
        | cons q rest =>
          refine ⟨(q :: rest) ++ [p], hch', hnd', Or.inr ⟨[], q, rest ++ [p], rfl, ?_, ?_⟩⟩
          · rw [hend]; exact (hc _ _ hch.1).symm
          · rw [e2]
            congr 1
            refine best_same nw hs ht hmL (fun z hz => hmL z (by simp at hz ⊢; rcases hz with h | h | h <;> simp [h])) (fun z => ?_)
            simp only [List.mem_cons, List.mem_append, List.not_mem_nil, or_false]
            constructor
            · rintro (h | h | h) <;> simp [h]
            · rintro (h | h | h) <;> simp [h]
/-- a way from an entrance is one -/
theorem chain_uniq {c : α → Option β} {l : List β} : ∀ {r : List β} {x : α}, Chain to c x l → Chain to c x r → (∃ s, r = l ++ s) ∨ (∃ s, l = r ++ s) := by
  induction l with
  | nil => intro r x _ _; exact Or.inl ⟨r, rfl⟩
  | cons o l ih =>
    intro r x h1 h2
    cases r with
    | nil => exact Or.inr ⟨_, rfl⟩
    | cons p r =>
      obtain ⟨a, b⟩ := h1
      obtain ⟨a', b'⟩ := h2
      obtain rfl : o = p := by rw [a] at a'; exact Option.some.inj a'
      rcases ih b b' with ⟨s, e⟩ | ⟨s, e⟩
      · exact Or.inl ⟨s, by rw [e]; rfl⟩
      · exact Or.inr ⟨s, by rw [e]; rfl⟩
theorem nodup_mid {β γ : Type} (f : β → γ) {pre pre' post post' : List β} {a b : β} (hn : ((pre ++ a :: post).map f).Nodup) (e : pre ++ a :: post = pre' ++ b :: post') (hf : f a = f b) : pre = pre' ∧ a = b ∧ post = post' := by
  induction pre generalizing pre' with
  | nil =>
    cases pre' with
    | nil => obtain ⟨h1, h2⟩ := List.cons.inj e; exact ⟨rfl, h1, h2⟩
    | cons q pre' =>
      exfalso
      obtain ⟨rfl, e2⟩ := List.cons.inj e
      rw [List.nil_append, List.map_cons, List.nodup_cons] at hn
      exact hn.1 (by rw [e2, hf]; simp)
  | cons p pre ih =>
    cases pre' with
    | nil =>
      exfalso
      obtain ⟨rfl, e2⟩ := List.cons.inj e
      rw [List.cons_append, List.map_cons, List.nodup_cons] at hn
      exact hn.1 (by rw [← hf]; simp)
    | cons q pre' =>
      obtain ⟨rfl, e2⟩ := List.cons.inj e
      rw [List.cons_append, List.map_cons, List.nodup_cons] at hn
      obtain ⟨h1, h2, h3⟩ := ih hn.2 e2
      exact ⟨by rw [h1], h2, h3⟩
theorem ends_longer {c : α → Option β} (hc : Own fr c) {x t t' : α} {way s : List β} (h : Ends fr to nw c x way t) (h' : Ends fr to nw c x (way ++ s) t') : s = [] := by
  cases s with
  | nil => rfl
  | cons q s =>
    exfalso
    obtain ⟨_, _, e⟩ := h
    obtain ⟨c', n', _⟩ := h'
    obtain ⟨_, c2⟩ := (chain_app to c _ _ _).1 c'
    have hq := c2.1
    rcases e with ⟨e1, _⟩ | ⟨pre, o, post, rfl, e1, _⟩
    · rw [e1] at hq; cases hq
    · have hf := hc _ _ hq
      rw [e1] at hf
      have : fr o ∈ ((pre ++ o :: post).map fr) := by simp
      rw [List.map_append, List.nodup_append] at n'
      exact n'.2.2 (fr o) this (fr q) (by simp) hf.symm
/-- where the mail goes is settled -/
theorem ends_uniq {c : α → Option β} (hc : Own fr c) {x t t' : α} {way way' : List β} (h : Ends fr to nw c x way t) (h' : Ends fr to nw c x way' t') : way = way' ∧ t = t' := by
  have hw : way = way' := by
    rcases chain_uniq to h.1 h'.1 with ⟨s, rfl⟩ | ⟨s, rfl⟩
    · rw [ends_longer fr to nw hc h h', List.append_nil]
    · rw [ends_longer fr to nw hc h' h, List.append_nil]
  subst hw
  refine ⟨rfl, ?_⟩
  obtain ⟨h1, h2, h3⟩ := h
  obtain ⟨_, _, h3'⟩ := h'
  have hno : ∀ pre o post, way = pre ++ o :: post → endAt to x way = fr o → c (endAt to x way) ≠ none := fun pre o post e e1 e2 => by
    have := chain_mem fr to hc h1 o (by rw [e]; simp)
    rw [← e1, e2] at this; cases this
  rcases h3 with ⟨e1, e2⟩ | ⟨pre, o, post, e, e1, e2⟩ <;> rcases h3' with ⟨f1, f2⟩ | ⟨pre', o', post', f, f1, f2⟩
  · rw [e2, f2]
  · exact absurd e1 (hno _ _ _ f f1)
  · exact absurd f1 (hno _ _ _ e e1)
  · obtain ⟨_, rfl, rfl⟩ := nodup_mid fr (a := o) (b := o') (by rw [← e]; exact h2) (e.symm.trans f) (e1.symm.trans f1)
    rw [e2, f2]
/-- along a way the mail goes to one place -/
theorem ends_along (hs : SO nw) {L : List β} (ht : Tot nw L) {c : α → Option β} (hc : Own fr c) (hL : ∀ x o, c x = some o → o ∈ L) (l : List β) : ∀ {x t : α} {way : List β}, Ends fr to nw c x way t → Chain to c x l → ∃ way', Ends fr to nw c (endAt to x l) way' t := by
  induction l with
  | nil => intro x t way h _; exact ⟨way, h⟩
  | cons o l ih =>
    intro x t way h hch
    obtain ⟨way', h'⟩ := ends_next fr to nw hs ht hc hL h hch.1
    exact ih h' hch.2
/-- from where the mail goes it goes nowhere else -/
theorem ends_again (hs : SO nw) {L : List β} (ht : Tot nw L) {c : α → Option β} (hc : Own fr c) (hL : ∀ x o, c x = some o → o ∈ L) {x t : α} {way : List β} (h : Ends fr to nw c x way t) : ∃ way', Ends fr to nw c t way' t := by
  obtain ⟨h1, h2, h3⟩ := h
  rcases h3 with ⟨e1, e2⟩ | ⟨pre, o, post, e, e1, e2⟩
  · subst e2
    exact ⟨[], trivial, List.nodup_nil, Or.inl ⟨e1, rfl⟩⟩
  · have hm : best nw o post ∈ o :: post := by rcases best_mem nw post o with k | k <;> simp [k]
    obtain ⟨u, v, huv⟩ := List.append_of_mem hm
    -- the way up to the newest order leads to where the mail goes
    have hw : way = (pre ++ (u ++ [best nw o post])) ++ v := by rw [e, huv]; simp
    have hch : Chain to c x (pre ++ (u ++ [best nw o post])) := ((chain_app to c _ _ _).1 (hw ▸ h1)).1
    obtain ⟨way', k⟩ := ends_along fr to nw hs ht hc hL _ ⟨h1, h2, Or.inr ⟨pre, o, post, e, e1, e2⟩⟩ hch
    rw [← List.append_assoc, endAt_snoc] at k
    exact ⟨way', by rw [e2]; rw [e2] at k; exact k⟩
end
end Go.Proofs.YtngbkdnkpolbfaaDoor
