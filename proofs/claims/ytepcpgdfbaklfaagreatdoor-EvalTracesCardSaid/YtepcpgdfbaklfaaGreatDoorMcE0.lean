/- Plain definitions for layer 20: values as data; what a path leads to; what counts as true; which values may be; how a template is run. And laws on them: more fuel and more calls; other fuel's rest. No program in sight, no condition. -/
import Derived.Test.YtepcpgdfbaklfaaGreatDoorMcTp0
import GoSem.Op.Equal
set_option linter.unusedSimpArgs false
set_option linter.unusedVariables false
namespace Go.Proofs.YtepcpgdfbaklfaaGreatDoor.Ev
structure Vh where
 kind : Nat
 b : Bool
 n : Int
 bits : Nat
 text : ByteArray
 keys : List ByteArray
inductive Vl where
 | nil : Vl
 | cons (h : Vh) (items rest : Vl) : Vl
structure Va where
 h : Vh
 items : Vl
namespace Vl
def len : Vl → Nat
 | nil => 0
 | cons _ _ r => r.len + 1
def get : Vl → Nat → Option Va
 | nil, _ => none
 | cons h k _, 0 => some ⟨h, k⟩
 | cons _ _ r, i + 1 => r.get i
end Vl
def zeroVh : Vh := ⟨0, false, 0, 0, .empty, []⟩
def zeroVa : Va := ⟨zeroVh, .nil⟩
def idxF (n : ByteArray) : List ByteArray → Nat
 | [] => 0
 | k :: r => if k = n then 0 else idxF n r + 1
def getF : List ByteArray → Va → Except Nat Va
 | [], v => .ok v
 | n :: r, v => if v.h.kind = 7 then
     if idxF n v.h.keys < v.h.keys.length then
      match v.items.get (idxF n v.h.keys) with
      | some x => getF r x
      | none => .error 200
     else .error 200
   else .error 201
def trueF (v : Va) : Bool :=
 if v.h.kind = 2 then v.h.b
 else if v.h.kind = 3 then decide (v.h.n ≠ 0)
 else if v.h.kind = 4 then decide (v.h.bits % 9223372036854775808 ≠ 0 ∧ v.h.bits % 9223372036854775808 ≤ 9218868437227405312)
 else if v.h.kind = 5 then decide (v.h.text.size ≠ 0)
 else if v.h.kind = 6 ∨ v.h.kind = 7 then decide (v.items.len ≠ 0)
 else false
def plainF (h : Vh) (items : Nat) : Bool :=
 decide (1 ≤ h.kind ∧ h.kind ≤ 7) && (decide (h.kind = 2) || !h.b) && (decide (h.kind = 3) || decide (h.n = 0)) && (decide (h.kind = 4) || decide (h.bits = 0)) && (decide (h.kind = 5) || decide (h.text.size = 0))
  && (if h.kind = 7 then decide (items = h.keys.length ∧ h.keys.Nodup) else decide (h.keys = []) && (decide (h.kind = 6) || decide (items = 0)))
def formF : Vl → Bool
 | .nil => true
 | .cons h k r => plainF h k.len && formF k && formF r
def deepF : Vl → Nat
 | .nil => 0
 | .cons h k r => max (if h.kind = 6 ∨ h.kind = 7 then deepF k + 1 else 0) (deepF r)
structure Pc where
 pos : Int
 hole : Bool
 val : Va
 text : ByteArray
structure Rs where
 out : List Pc
 fuel : Nat
 err : Option (Nat × Int)
def Rs.seq (a : Rs) (k : Nat → Rs) : Rs :=
 match a.err with
 | some _ => a
 | none => ⟨a.out ++ (k a.fuel).out, (k a.fuel).fuel, (k a.fuel).err⟩
def burnF (pos : Int) (f : Nat) (k : Nat → Rs) : Rs :=
 match f with
 | 0 => ⟨[], 0, some (202, pos)⟩
 | f + 1 => k f
def listF (one : Hd → Pt → Pt → Nat → Rs) : Pt → Nat → Rs
 | .nil, f => ⟨[], f, none⟩
 | .cons h k e r, f => (one h k e f).seq (listF one r)
def itemsF (pos : Int) (go : Va → Nat → Rs) : Vl → Nat → Rs
 | .nil, f => ⟨[], f, none⟩
 | .cons h i r, f => (burnF pos f (go ⟨h, i⟩)).seq (itemsF pos go r)
def evF (D : ByteArray → Pt) (C : Nat) : Nat → Va → Va → Nat → Hd → Pt → Pt → Nat → Rs
 | 0, _, _, _, h, _, _, f => ⟨[], f, some (202, h.pos)⟩
 | n + 1, dot, root, deep, h, k, e, f => burnF h.pos f fun f =>
   if h.kind = 1 then ⟨[⟨h.pos, false, zeroVa, h.text⟩], f, none⟩
   else match getF h.names (if h.root then root else dot) with
   | .error x => ⟨[], f, some (x, h.pos)⟩
   | .ok v =>
     if h.kind = 2 then ⟨[⟨h.pos, true, v, .empty⟩], f, none⟩
     else if h.kind = 3 then listF (evF D C n dot root deep) (if trueF v then k else e) f
     else if h.kind = 4 then
      if v.h.kind = 6 then
       if v.items.len = 0 then listF (evF D C n dot root deep) e f
       else itemsF h.pos (fun x => listF (evF D C n x root deep) k) v.items f
      else ⟨[], f, some (201, h.pos)⟩
     else if deep = C then ⟨[], f, some (203, h.pos)⟩
     else listF (evF D C n v v (deep + 1)) (D h.name) f
def runF (D : ByteArray → Pt) (C : Nat) (main : Pt) (v : Va) (fuel : Nat) : Rs := listF (evF D C fuel v v 0) main fuel
def Mono (d : Nat) (a b : Rs) : Prop :=
 (a.err = none ∧ b.err = none ∧ a.out = b.out ∧ b.fuel = a.fuel + d) ∨
 (∃ e p, a.err = some (e, p) ∧ e ≠ 202 ∧ e ≠ 203 ∧ b.err = some (e, p) ∧ a.out = b.out) ∨
 (∃ e p, a.err = some (e, p) ∧ (e = 202 ∨ e = 203) ∧ a.out <+: b.out)
theorem Mono.seq {d : Nat} {a b : Rs} {k l : Nat → Rs} (h : Mono d a b) (hk : a.err = none → Mono d (k a.fuel) (l (a.fuel + d))) : Mono d (a.seq k) (b.seq l) := by
 rcases h with ⟨ha, hb, ho, hf⟩ | ⟨e, p, ha, h1, h2, hb, ho⟩ | ⟨e, p, ha, h1, ho⟩
 · have hk := hk ha
   simp only [Rs.seq, ha, hb, hf, ho]
   rcases hk with ⟨h1, h2, h3, h4⟩ | ⟨e, p, h1, h2, h3, h4, h5⟩ | ⟨e, p, h1, h2, h3⟩
   · exact .inl ⟨h1, h2, by simp [h3], h4⟩
   · exact .inr (.inl ⟨e, p, h1, h2, h3, h4, by simp [h5]⟩)
   · exact .inr (.inr ⟨e, p, h1, h2, (List.prefix_append_right_inj _).2 h3⟩)
 · simp only [Rs.seq, ha, hb]
   exact .inr (.inl ⟨e, p, ha, h1, h2, hb, ho⟩)
 · refine .inr (.inr ⟨e, p, by simp only [Rs.seq, ha], h1, ?_⟩)
   have : (a.seq k).out = a.out := by simp only [Rs.seq, ha]
   rw [this]
   refine ho.trans ?_
   cases hb : b.err with
   | none => simp only [Rs.seq, hb]; exact List.prefix_append _ _
   | some x => simp only [Rs.seq, hb]; exact List.prefix_refl _
theorem less_seq {f : Nat} {a : Rs} {k : Nat → Rs} (h : a.fuel ≤ f) (hk : ∀ g, g ≤ f → (k g).fuel ≤ g) : (a.seq k).fuel ≤ f := by
 cases ha : a.err with
 | some x => simpa only [Rs.seq, ha] using h
 | none => simp only [Rs.seq, ha]; exact Nat.le_trans (hk _ h) h
theorem less_list {one : Hd → Pt → Pt → Nat → Rs} {F : Nat} (h : ∀ x k e f, f ≤ F → (one x k e f).fuel ≤ f) : ∀ l f, f ≤ F → (listF one l f).fuel ≤ f
 | .nil, f, _ => Nat.le_refl _
 | .cons x k e r, f, hf => less_seq (h x k e f hf) fun g hg => less_list h r g (Nat.le_trans hg hf)
theorem less_items {pos : Int} {go : Va → Nat → Rs} {F : Nat} (h : ∀ x f, f ≤ F → (go x f).fuel ≤ f) : ∀ l f, f ≤ F → (itemsF pos go l f).fuel ≤ f
 | .nil, f, _ => Nat.le_refl _
 | .cons x i r, f, hf => by
   refine less_seq ?_ fun g hg => less_items h r g (Nat.le_trans hg hf)
   cases f with
   | zero => exact Nat.le_refl _
   | succ f => exact Nat.le_trans (h _ f (by omega)) (by omega)
theorem less_ev {D : ByteArray → Pt} {C : Nat} : ∀ n dot root deep h k e f, (evF D C n dot root deep h k e f).fuel ≤ f
 | 0, _, _, _, _, _, _, f => Nat.le_refl _
 | n + 1, dot, root, deep, h, k, e, f => by
   cases f with
   | zero => exact Nat.le_refl _
   | succ f =>
     simp only [evF, burnF]
     have IH := fun dot root deep h k e f (_ : f ≤ f) => less_ev (D := D) (C := C) n dot root deep h k e f
     have IL : ∀ dot root deep l f, (listF (evF D C n dot root deep) l f).fuel ≤ f := fun dot root deep l f =>
      less_list (F := f) (fun x k e f _ => less_ev n dot root deep x k e f) l f (Nat.le_refl _)
     split
     · simp
     · split
       · simp
       · split
         · simp
         · split
           · exact Nat.le_trans (IL _ _ _ _ _) (by omega)
           · split
             · split
               · split
                 · exact Nat.le_trans (IL _ _ _ _ _) (by omega)
                 · exact Nat.le_trans (less_items (F := f) (fun x g _ => IL _ _ _ _ _) _ f (Nat.le_refl _)) (by omega)
               · simp
             · split
               · simp
               · exact Nat.le_trans (IL _ _ _ _ _) (by omega)
theorem mono_list {d F : Nat} {one two : Hd → Pt → Pt → Nat → Rs} (hl : ∀ x k e f, (one x k e f).fuel ≤ f) (h : ∀ x k e f, f ≤ F → Mono d (one x k e f) (two x k e (f + d))) :
 ∀ l f, f ≤ F → Mono d (listF one l f) (listF two l (f + d))
 | .nil, f, _ => .inl ⟨rfl, rfl, rfl, rfl⟩
 | .cons x k e r, f, hf => (h x k e f hf).seq fun _ => mono_list hl h r _ (Nat.le_trans (hl x k e f) hf)
theorem mono_burn {d : Nat} {pos : Int} {f : Nat} {a b : Nat → Rs} (h : ∀ g, f = g + 1 → Mono d (a g) (b (g + d))) : Mono d (burnF pos f a) (burnF pos (f + d) b) := by
 cases f with
 | zero => exact .inr (.inr ⟨202, pos, rfl, .inl rfl, List.nil_prefix⟩)
 | succ f =>
   have : f + 1 + d = (f + d) + 1 := by omega
   rw [this]
   exact h f rfl
theorem mono_items {d F : Nat} {pos : Int} {a b : Va → Nat → Rs} (hl : ∀ x f, (a x f).fuel ≤ f) (h : ∀ x f, f + 1 ≤ F → Mono d (a x f) (b x (f + d))) :
 ∀ l f, f ≤ F → Mono d (itemsF pos a l f) (itemsF pos b l (f + d))
 | .nil, f, _ => .inl ⟨rfl, rfl, rfl, rfl⟩
 | .cons x i r, f, hf => by
   refine (mono_burn fun g hg => h _ g (by omega)).seq fun _ => mono_items hl h r _ (Nat.le_trans ?_ hf)
   cases f with
   | zero => exact Nat.le_refl _
   | succ f => exact Nat.le_trans (hl _ f) (by omega)
theorem mono_ev {D : ByteArray → Pt} {C C' d : Nat} (hC : C ≤ C') : ∀ n m dot root deep h k e f, f ≤ n → f + d ≤ m → deep ≤ C → Mono d (evF D C n dot root deep h k e f) (evF D C' m dot root deep h k e (f + d))
 | 0, m, dot, root, deep, h, k, e, f, hn, hm, hd => .inr (.inr ⟨202, h.pos, rfl, .inl rfl, List.nil_prefix⟩)
 | n + 1, 0, dot, root, deep, h, k, e, f, hn, hm, hd => by
   have : f = 0 := by omega
   subst this
   exact .inr (.inr ⟨202, h.pos, rfl, .inl rfl, List.nil_prefix⟩)
 | n + 1, m + 1, dot, root, deep, h, k, e, f, hn, hm, hd => by
   simp only [evF]
   refine mono_burn fun f hf => ?_
   subst hf
   have IL : ∀ dot root deep l g, deep ≤ C → g ≤ f → Mono d (listF (evF D C n dot root deep) l g) (listF (evF D C' m dot root deep) l (g + d)) := fun dot root deep l g hdp hg =>
    mono_list (F := f) (fun x k e f => less_ev n dot root deep x k e f) (fun x k e g hg => mono_ev hC n m dot root deep x k e g (by omega) (by omega) hdp) l g hg
   have LL : ∀ dot root deep l f, (listF (evF D C n dot root deep) l f).fuel ≤ f := fun dot root deep l f =>
    less_list (F := f) (fun x k e f _ => less_ev n dot root deep x k e f) l f (Nat.le_refl _)
   split
   · exact .inl ⟨rfl, rfl, rfl, rfl⟩
   · cases hg : getF h.names (if h.root then root else dot) with
     | error x =>
       dsimp only
       by_cases h1 : x = 202 ∨ x = 203
       · exact .inr (.inr ⟨x, h.pos, rfl, h1, List.prefix_refl _⟩)
       · exact .inr (.inl ⟨x, h.pos, rfl, fun h => h1 (.inl h), fun h => h1 (.inr h), rfl, rfl⟩)
     | ok v =>
       dsimp only
       split
       · exact .inl ⟨rfl, rfl, rfl, rfl⟩
       · split
         · exact IL _ _ _ _ _ hd (Nat.le_refl _)
         · split
           · split
             · split
               · exact IL _ _ _ _ _ hd (Nat.le_refl _)
               · exact mono_items (F := f) (fun x g => LL x root deep k g) (fun x g hg => IL x root deep k g hd (by omega)) _ f (Nat.le_refl _)
             · exact .inr (.inl ⟨201, h.pos, rfl, by decide, by decide, rfl, rfl⟩)
           · by_cases hdc : deep = C
             · rw [if_pos hdc]
               exact .inr (.inr ⟨203, h.pos, rfl, .inr rfl, List.nil_prefix⟩)
             · rw [if_neg hdc, if_neg (by omega)]
               exact IL _ _ _ _ _ (by omega) (Nat.le_refl _)
theorem run_more (D : ByteArray → Pt) (C C' : Nat) (hC : C ≤ C') (main : Pt) (v : Va) (f d : Nat) : Mono d (runF D C main v f) (runF D C' main v (f + d)) :=
 mono_list (F := f) (fun x k e f => less_ev _ _ _ _ x k e f) (fun x k e g hg => mono_ev hC _ _ _ _ _ _ _ _ g hg (by omega) (by omega)) main f (Nat.le_refl _)
theorem get_some {l : Vl} : ∀ {i : Nat}, i < l.len → ∃ x, l.get i = some x := by
 induction l with
 | nil => intro i h; exact absurd h (Nat.not_lt_zero _)
 | cons h k r _ ih =>
   intro i hi
   cases i with
   | zero => exact ⟨_, rfl⟩
   | succ i => exact ih (Nat.lt_of_succ_lt_succ hi)
theorem get_none {l : Vl} : ∀ {i : Nat}, l.len ≤ i → l.get i = none := by
 induction l with
 | nil => intro i h; rfl
 | cons h k r _ ih =>
   intro i hi
   cases i with
   | zero => exact absurd hi (Nat.not_succ_le_zero _)
   | succ i => exact ih (Nat.le_of_succ_le_succ hi)
theorem getF_app : ∀ (a b : List ByteArray) (v : Va), getF (a ++ b) v = match getF a v with | .ok x => getF b x | .error e => .error e
 | [], b, v => rfl
 | n :: a, b, v => by
   simp only [List.cons_append, getF]
   split
   · split
     · split
       · exact getF_app a b _
       · rfl
     · rfl
   · rfl
def othH (o : ByteArray) (h : Vh) : Vh := if h.kind = 5 ∧ h.text.size ≠ 0 then { h with text := h.text ++ o } else h
def othL (o : ByteArray) : Vl → Vl
 | .nil => .nil
 | .cons h k r => .cons (othH o h) (othL o k) (othL o r)
def othV (o : ByteArray) (v : Va) : Va := ⟨othH o v.h, othL o v.items⟩
theorem oth_kind (o h) : (othH o h).kind = h.kind := by unfold othH; split <;> rfl
theorem oth_b (o h) : (othH o h).b = h.b := by unfold othH; split <;> rfl
theorem oth_n (o h) : (othH o h).n = h.n := by unfold othH; split <;> rfl
theorem oth_bits (o h) : (othH o h).bits = h.bits := by unfold othH; split <;> rfl
theorem oth_keys (o h) : (othH o h).keys = h.keys := by unfold othH; split <;> rfl
theorem oth_text (o h) : ((othH o h).text.size = 0) = (h.text.size = 0) := by
 unfold othH
 split
 · rename_i hh
   have : (h.text ++ o).size = h.text.size + o.size := ByteArray.size_append
   simp only [this, eq_iff_iff]
   omega
 · rfl
theorem oth_len (o l) : (othL o l).len = l.len := by
 induction l with
 | nil => rfl
 | cons h k r _ ih => simp only [othL, Vl.len, ih]
theorem oth_get (o l) : ∀ i, (othL o l).get i = (l.get i).map (othV o) := by
 induction l with
 | nil => intro i; rfl
 | cons h k r _ ih =>
   intro i
   cases i with
   | zero => rfl
   | succ i => exact ih i
theorem oth_true (o v) : trueF (othV o v) = trueF v := by
 simp only [trueF, othV, oth_kind, oth_b, oth_n, oth_bits, oth_len, ne_eq, oth_text]
theorem oth_getF (o) : ∀ l v, getF l (othV o v) = match getF l v with | .ok x => .ok (othV o x) | .error e => .error e
 | [], v => rfl
 | n :: r, v => by
   have hk : (othV o v).h.kind = v.h.kind := oth_kind o v.h
   have hy : (othV o v).h.keys = v.h.keys := oth_keys o v.h
   have hg : ∀ i, (othV o v).items.get i = (v.items.get i).map (othV o) := oth_get o v.items
   simp only [getF, hk, hy, hg]
   split
   · split
     · cases hx : v.items.get (idxF n v.h.keys) with
       | none => rfl
       | some x => exact oth_getF o r x
     · rfl
   · rfl
theorem oth_plain (o h n) : plainF (othH o h) n = plainF h n := by
 simp only [plainF, oth_kind, oth_b, oth_n, oth_bits, oth_keys, oth_text]
theorem oth_form (o l) : formF (othL o l) = formF l := by
 induction l with
 | nil => rfl
 | cons h k r ih1 ih2 => simp only [othL, formF, oth_plain, oth_len, ih1, ih2]
theorem oth_deep (o l) : deepF (othL o l) = deepF l := by
 induction l with
 | nil => rfl
 | cons h k r ih1 ih2 => simp only [othL, deepF, oth_kind, ih1, ih2]
def trcF (p : Pc) : Int := if p.hole then -1 - p.pos else p.pos
def Alike (a b : Rs) : Prop := a.out.map trcF = b.out.map trcF ∧ a.fuel = b.fuel ∧ a.err = b.err
theorem Alike.seq {a b : Rs} {k l : Nat → Rs} (h : Alike a b) (hk : ∀ f, Alike (k f) (l f)) : Alike (a.seq k) (b.seq l) := by
 obtain ⟨ho, hf, he⟩ := h
 cases hb : b.err with
 | some x => simp only [Rs.seq, he, hb]; exact ⟨ho, hf, he⟩
 | none =>
   simp only [Rs.seq, he, hb, hf]
   obtain ⟨h1, h2, h3⟩ := hk b.fuel
   exact ⟨by simp only [List.map_append, ho, h1], h2, h3⟩
theorem Alike.refl (a : Rs) : Alike a a := ⟨rfl, rfl, rfl⟩
theorem alike_list {one two : Hd → Pt → Pt → Nat → Rs} (h : ∀ x k e f, Alike (one x k e f) (two x k e f)) : ∀ l f, Alike (listF one l f) (listF two l f)
 | .nil, f => Alike.refl _
 | .cons x k e r, f => (h x k e f).seq fun f => alike_list h r f
theorem alike_burn {pos : Int} {f : Nat} {a b : Nat → Rs} (h : ∀ g, Alike (a g) (b g)) : Alike (burnF pos f a) (burnF pos f b) := by
 cases f with
 | zero => exact Alike.refl _
 | succ f => exact h f
theorem alike_items {pos : Int} {o : ByteArray} {a b : Va → Nat → Rs} (h : ∀ x f, Alike (a x f) (b (othV o x) f)) : ∀ l f, Alike (itemsF pos a l f) (itemsF pos b (othL o l) f)
 | .nil, f => Alike.refl _
 | .cons x i r, f => (alike_burn fun g => h ⟨x, i⟩ g).seq fun f => alike_items h r f
theorem alike_ev {D : ByteArray → Pt} {C : Nat} (o : ByteArray) : ∀ n dot root deep h k e f, Alike (evF D C n dot root deep h k e f) (evF D C n (othV o dot) (othV o root) deep h k e f)
 | 0, dot, root, deep, h, k, e, f => Alike.refl _
 | n + 1, dot, root, deep, h, k, e, f => by
   simp only [evF]
   refine alike_burn fun f => ?_
   split
   · exact Alike.refl _
   · have hd : (if h.root = true then othV o root else othV o dot) = othV o (if h.root = true then root else dot) := by split <;> rfl
     rw [hd, oth_getF]
     cases hg : getF h.names (if h.root = true then root else dot) with
     | error x => exact Alike.refl _
     | ok v =>
       dsimp only
       split
       · exact ⟨rfl, rfl, rfl⟩
       · rw [oth_true]
         have hk : (othV o v).h.kind = v.h.kind := oth_kind o v.h
         have hl : (othV o v).items.len = v.items.len := oth_len o v.items
         rw [hk, hl]
         split
         · exact alike_list (fun x k e f => alike_ev o n dot root deep x k e f) _ f
         · split
           · split
             · split
               · exact alike_list (fun x k e f => alike_ev o n dot root deep x k e f) _ f
               · exact alike_items (fun y f => alike_list (fun x k e f => alike_ev o n y root deep x k e f) k f) v.items f
             · exact Alike.refl _
           · split
             · exact Alike.refl _
             · exact alike_list (fun x k e f => alike_ev o n v v (deep + 1) x k e f) _ f
theorem run_other (D : ByteArray → Pt) (C : Nat) (main : Pt) (v : Va) (o : ByteArray) (f : Nat) : Alike (runF D C main v f) (runF D C main (othV o v) f) :=
 alike_list (fun x k e g => alike_ev (D := D) (C := C) o f v v 0 x k e g) main f
theorem seq_assoc (a : Rs) (k l : Nat → Rs) : (a.seq k).seq l = a.seq fun f => (k f).seq l := by
 cases ha : a.err with
 | some x => simp only [Rs.seq, ha]
 | none =>
   cases hk : (k a.fuel).err with
   | some x => simp only [Rs.seq, ha, hk]
   | none => simp only [Rs.seq, ha, hk, List.append_assoc]
theorem nil_seq (f : Nat) (k : Nat → Rs) : (⟨[], f, none⟩ : Rs).seq k = k f := by simp only [Rs.seq, List.nil_append]
theorem list_app (one : Hd → Pt → Pt → Nat → Rs) (y : Pt) : ∀ x f, listF one (x.app y) f = (listF one x f).seq (listF one y)
 | .nil, f => (nil_seq f _).symm
 | .cons h k e r, f => by
   simp only [Pt.app, listF, seq_assoc]
   congr 1
   funext g
   exact list_app one y r g
theorem list_more {D : ByteArray → Pt} {C n m : Nat} {dot root : Va} {deep : Nat} {l : Pt} {f d : Nat} (hn : f ≤ n) (hm : f + d ≤ m) (hd : deep ≤ C) (h : (listF (evF D C n dot root deep) l f).err = none) :
 listF (evF D C m dot root deep) l (f + d) = ⟨(listF (evF D C n dot root deep) l f).out, (listF (evF D C n dot root deep) l f).fuel + d, none⟩ := by
 have H := mono_list (d := d) (F := f) (fun x k e f => less_ev n dot root deep x k e f) (fun x k e g hg => mono_ev (D := D) (Nat.le_refl C) n m dot root deep x k e g (by omega) (by omega) hd) l f (Nat.le_refl _)
 rcases H with ⟨h1, h2, h3, h4⟩ | ⟨e, p, h1, _⟩ | ⟨e, p, h1, _⟩
 · rw [h3, ← h4, ← h2]
 · rw [h] at h1; cases h1
 · rw [h] at h1; cases h1
theorem run_twice (D : ByteArray → Pt) (C : Nat) (main : Pt) (v : Va) (f : Nat) (h : (runF D C main v f).err = none) :
 (runF D C (main.app main) v (f + f)).err = none ∧ (runF D C (main.app main) v (f + f)).out = (runF D C main v f).out ++ (runF D C main v f).out := by
 have hl : (runF D C main v f).fuel ≤ f := less_list (F := f) (fun x k e g _ => less_ev _ _ _ _ x k e g) main f (Nat.le_refl _)
 have h1 := list_more (m := f + f) (d := f) (Nat.le_refl f) (Nat.le_refl _) (Nat.zero_le C) h
 have h2 := list_more (m := f + f) (d := (runF D C main v f).fuel) (Nat.le_refl f) (by omega) (Nat.zero_le C) h
 have hc : (listF (evF D C f v v 0) main f).fuel + f = f + (runF D C main v f).fuel := by unfold runF; omega
 unfold runF at h ⊢
 rw [list_app, h1]
 simp only [Rs.seq]
 rw [hc, h2]
 exact ⟨rfl, rfl⟩
def rootF : Pt → Bool
 | .nil => false
 | .cons h k e r => h.root || rootF k || rootF e || rootF r
theorem unrooted_list {one two : Hd → Pt → Pt → Nat → Rs} (h : ∀ x k e f, x.root = false → rootF k = false → rootF e = false → one x k e f = two x k e f) : ∀ l f, rootF l = false → listF one l f = listF two l f
 | .nil, f, _ => rfl
 | .cons x k e r, f, hr => by
   simp only [rootF, Bool.or_eq_false_iff] at hr
   simp only [listF]
   rw [h x k e f hr.1.1.1 hr.1.1.2 hr.1.2]
   congr 1
   funext g
   exact unrooted_list h r g hr.2
theorem unrooted_ev {D : ByteArray → Pt} {C : Nat} (root root' : Va) : ∀ n dot deep h k e f, h.root = false → rootF k = false → rootF e = false → evF D C n dot root deep h k e f = evF D C n dot root' deep h k e f
 | 0, dot, deep, h, k, e, f, _, _, _ => rfl
 | n + 1, dot, deep, h, k, e, f, hr, hk, he => by
   have IL : ∀ dot deep l f, rootF l = false → listF (evF D C n dot root deep) l f = listF (evF D C n dot root' deep) l f := fun dot deep l f hl =>
    unrooted_list (fun x k e f h1 h2 h3 => unrooted_ev root root' n dot deep x k e f h1 h2 h3) l f hl
   simp only [evF, hr]
   congr 1
   funext g
   split
   · rfl
   · cases hg : getF h.names (if false = true then root else dot) with
     | error x => simp only [Bool.false_eq_true, if_false] at hg; simp only [Bool.false_eq_true, if_false, hg]
     | ok v =>
       simp only [Bool.false_eq_true, if_false] at hg
       simp only [Bool.false_eq_true, if_false, hg]
       split
       · rfl
       · split
         · exact IL _ _ _ _ (by split <;> assumption)
         · split
           · split
             · split
               · exact IL _ _ _ _ he
               · congr 1
                 funext x
                 funext f
                 exact IL _ _ _ _ hk
             · rfl
           · rfl
def repV (v : Va) : Nat → Vl
 | 0 => .nil
 | n + 1 => .cons v.h v.items (repV v n)
def repO (l : List Pc) : Nat → List Pc
 | 0 => []
 | n + 1 => l ++ repO l n
theorem items_rep2 (pos : Int) (go : Va → Nat → Rs) (v : Va) (f u : Nat) (o : List Pc) (hu : u ≤ f) {G : Nat} (h : ∀ d, d ≤ 10 * (f + 1) → f + d ≤ G → go v (f + d) = ⟨o, u + d, none⟩) : ∀ n g, n ≤ 9 → n * (f + 1) ≤ g → g ≤ 10 * (f + 1) → g ≤ G →
 ∃ g', itemsF pos go (repV v n) g = ⟨repO o n, g', none⟩
 | 0, g, _, _, _, _ => ⟨g, rfl⟩
 | n + 1, g, hn, hg, hb, hG => by
   have hmul : (n + 1) * (f + 1) = n * (f + 1) + (f + 1) := Nat.succ_mul _ _
   obtain ⟨d, rfl⟩ : ∃ d, g = f + d + 1 := ⟨g - f - 1, by omega⟩
   have h1 := h d (by omega) (by omega)
   obtain ⟨g', hg'⟩ := items_rep2 pos go v f u o hu h n (u + d) (by omega) (by omega) (by omega) (by omega)
   refine ⟨g', ?_⟩
   simp only [repV, itemsF, burnF]
   have hv : (⟨v.h, v.items⟩ : Va) = v := rfl
   rw [hv, h1]
   simp only [Rs.seq, hg', repO]
theorem run_range (D : ByteArray → Pt) (C : Nat) (main : Pt) (v : Va) (hd : Hd) (rh : Vh) (n : Nat) (hn : n ≤ 9) (f F : Nat) (hF : 9 * (f + 1) + 1 ≤ F) (hF2 : F ≤ 10 * (f + 1)) (hk : hd.kind = 4) (hr : hd.root = false)
 (hg : getF hd.names ⟨rh, .cons ⟨6, false, 0, 0, .empty, []⟩ (repV v n) .nil⟩ = .ok ⟨⟨6, false, 0, 0, .empty, []⟩, repV v n⟩) (hu : rootF main = false)
 (h : (runF D C main v f).err = none) :
 (runF D C (.cons hd main .nil .nil) ⟨rh, .cons ⟨6, false, 0, 0, .empty, []⟩ (repV v n) .nil⟩ F).err = none ∧ (runF D C (.cons hd main .nil .nil) ⟨rh, .cons ⟨6, false, 0, 0, .empty, []⟩ (repV v n) .nil⟩ F).out = repO (runF D C main v f).out n := by
 have hl : (runF D C main v f).fuel ≤ f := less_list (F := f) (fun x k e g _ => less_ev _ _ _ _ x k e g) main f (Nat.le_refl _)
 generalize hR : (⟨rh, .cons ⟨6, false, 0, 0, .empty, []⟩ (repV v n) .nil⟩ : Va) = R at *
 have go : ∀ d, d ≤ 10 * (f + 1) → f + d ≤ F - 1 → listF (evF D C (F - 1) v R 0) main (f + d) = ⟨(runF D C main v f).out, (runF D C main v f).fuel + d, none⟩ := fun d _ hdF => by
  rw [unrooted_list (two := evF D C (F - 1) v v 0) (fun x k e g h1 h2 h3 => unrooted_ev R v (F - 1) v 0 x k e g h1 h2 h3) main _ hu]
  exact list_more (Nat.le_refl f) hdF (Nat.zero_le C) h
 have hlen : ∀ n, (repV v n).len = n := fun n => by induction n with | zero => rfl | succ n ih => simp only [repV, Vl.len, ih]
 obtain ⟨G, rfl⟩ : ∃ G, F = G + 1 := ⟨F - 1, by omega⟩
 simp only [Nat.add_sub_cancel] at go
 unfold runF at h go ⊢
 have hone : evF D C (G + 1) R R 0 hd main .nil (G + 1) = if n = 0 then ⟨[], G, none⟩ else itemsF hd.pos (fun x => listF (evF D C G x R 0) main) (repV v n) G := by
  simp only [evF, burnF, hk, hr, Bool.false_eq_true, if_false, hg, hlen]
  simp [listF]
 simp only [listF, hone]
 by_cases hz : n = 0
 · subst hz
   simp [Rs.seq, repO]
 · rw [if_neg hz]
   obtain ⟨g', hg'⟩ := items_rep2 hd.pos (fun x => listF (evF D C G x R 0) main) v f (listF (evF D C f v v 0) main f).fuel (listF (evF D C f v v 0) main f).out (by unfold runF at hl; exact hl) (G := G) (fun d h1 h2 => go d h1 h2) n G hn (by have : n * (f + 1) ≤ 9 * (f + 1) := Nat.mul_le_mul_right _ hn; omega) (by omega) (Nat.le_refl _)
   rw [hg']
   simp [Rs.seq]
open Go.RowKit Go.Shelf
def RowX (ok : Nat → Prop) (w : World) : Vl → Nat → Nat → Prop
 | .nil, _, _ => True
 | .cons h k r, b, o =>
   (w.cell? ⟨b, o, none⟩ = some (.int .u8 (h.kind : Nat)) ∧ w.cell? ⟨b, o + 1, none⟩ = some (.bool h.b) ∧ w.cell? ⟨b, o + 2, none⟩ = some (.int .i64 h.n) ∧ w.cell? ⟨b, o + 3, none⟩ = some (.int .u64 (h.bits : Nat)) ∧ w.cell? ⟨b, o + 4, none⟩ = some (.string h.text) ∧
    (∃ v, w.cell? ⟨b, o + 5, none⟩ = some v ∧ Strs ok w v h.keys)) ∧
   (∃ (a : Option Addr) (c : Nat), w.cell? ⟨b, o + 6, none⟩ = some (.slice a k.len c) ∧ k.len ≤ c ∧ c ≤ maxLen ∧ (k ≠ .nil → ∃ b' o', a = some ⟨b', o', none⟩ ∧ ok b' ∧ RowX ok w k b' o')) ∧
   RowX ok w r b (o + 7)
def Vals (ok : Nat → Prop) (w : World) (v : Value) (t : Vl) : Prop :=
 ∃ (a : Option Addr) (c : Nat), v = .slice a t.len c ∧ t.len ≤ c ∧ c ≤ maxLen ∧ (t ≠ .nil → ∃ b o, a = some ⟨b, o, none⟩ ∧ ok b ∧ RowX ok w t b o)
def ValM (ok : Nat → Prop) (w : World) (v : Value) (x : Va) : Prop :=
 ∃ vk vi, v = .agg #[.int .u8 (x.h.kind : Nat), .bool x.h.b, .int .i64 x.h.n, .int .u64 (x.h.bits : Nat), .string x.h.text, vk, vi] ∧ Strs ok w vk x.h.keys ∧ Vals ok w vi x.items
theorem RowX.kept {ok : Nat → Prop} {w w' : World} (hk : Kept ok w w') : ∀ (t : Vl) (b o : Nat), ok b → RowX ok w t b o → RowX ok w' t b o := by
 intro t
 induction t with
 | nil => intro b o _ _; exact trivial
 | cons h k r ihk ihr =>
   intro b o hb hr
   obtain ⟨⟨c0, c1, c2, c3, c4, v, c5, hs⟩, ⟨ak, ck, c6, k1, k2, k3⟩, hrest⟩ := hr
   refine ⟨⟨(hk.cell hb _).trans c0, (hk.cell hb _).trans c1, (hk.cell hb _).trans c2, (hk.cell hb _).trans c3, (hk.cell hb _).trans c4, v, (hk.cell hb _).trans c5, hs.kept hk⟩,
    ⟨ak, ck, (hk.cell hb _).trans c6, k1, k2, fun hn => ?_⟩, ihr b _ hb hrest⟩
   obtain ⟨b', o', h1, h2, h3⟩ := k3 hn
   exact ⟨b', o', h1, h2, ihk b' o' h2 h3⟩
theorem Vals.kept {ok : Nat → Prop} {w w' : World} {v : Value} {t : Vl} (h : Vals ok w v t) (hk : Kept ok w w') : Vals ok w' v t := by
 obtain ⟨a, c, hv, h1, h2, h3⟩ := h
 refine ⟨a, c, hv, h1, h2, fun hl => ?_⟩
 obtain ⟨b, o, ha, hb, hc⟩ := h3 hl
 exact ⟨b, o, ha, hb, hc.kept hk _ _ _ hb⟩
theorem ValM.kept {ok : Nat → Prop} {w w' : World} {v : Value} {x : Va} (h : ValM ok w v x) (hk : Kept ok w w') : ValM ok w' v x := by
 obtain ⟨vk, vi, hv, h1, h2⟩ := h
 exact ⟨vk, vi, hv, h1.kept hk, h2.kept hk⟩
theorem RowX.mono {ok ok' : Nat → Prop} {w : World} (hk : ∀ b, ok b → ok' b) : ∀ (t : Vl) (b o : Nat), RowX ok w t b o → RowX ok' w t b o := by
 intro t
 induction t with
 | nil => intro b o _; exact trivial
 | cons h k r ihk ihr =>
   intro b o hr
   obtain ⟨⟨c0, c1, c2, c3, c4, v, c5, hs⟩, ⟨ak, ck, c6, k1, k2, k3⟩, hrest⟩ := hr
   refine ⟨⟨c0, c1, c2, c3, c4, v, c5, hs.mono hk⟩, ⟨ak, ck, c6, k1, k2, fun hn => ?_⟩, ihr b _ hrest⟩
   obtain ⟨b', o', h1, h2, h3⟩ := k3 hn
   exact ⟨b', o', h1, hk _ h2, ihk b' o' h3⟩
theorem Vals.mono {ok ok' : Nat → Prop} {w : World} {v : Value} {t : Vl} (h : Vals ok w v t) (hk : ∀ b, ok b → ok' b) : Vals ok' w v t := by
 obtain ⟨a, c, hv, h1, h2, h3⟩ := h
 refine ⟨a, c, hv, h1, h2, fun hl => ?_⟩
 obtain ⟨b, o, ha, hb, hc⟩ := h3 hl
 exact ⟨b, o, ha, hk b hb, hc.mono hk _ _ _⟩
theorem ValM.mono {ok ok' : Nat → Prop} {w : World} {v : Value} {x : Va} (h : ValM ok w v x) (hk : ∀ b, ok b → ok' b) : ValM ok' w v x := by
 obtain ⟨vk, vi, hv, h1, h2⟩ := h
 exact ⟨vk, vi, hv, h1.mono hk, h2.mono hk⟩
theorem Vals.nil (ok : Nat → Prop) (w : World) : Vals ok w (.slice none 0 0) .nil := ⟨none, 0, rfl, Nat.le_refl _, by decide, fun h => absurd rfl h⟩
theorem ValM.zero (ok : Nat → Prop) (w : World) : ValM ok w (.agg #[.int .u8 0, .bool false, .int .i64 0, .int .u64 0, .string .empty, .slice none 0 0, .slice none 0 0]) zeroVa := ⟨_, _, rfl, Strs.nil _ _, Vals.nil _ _⟩
theorem RowX.at {ok : Nat → Prop} {w : World} : ∀ (t : Vl) (b o i : Nat) (x : Va), RowX ok w t b o → t.get i = some x → ∃ r, RowX ok w (.cons x.h x.items r) b (o + 7 * i) := by
 intro t
 induction t with
 | nil => intro b o i x _ h; cases h
 | cons h k r _ ih =>
   intro b o i x hr hx
   cases i with
   | zero =>
     cases hx
     exact ⟨r, hr⟩
   | succ i =>
     obtain ⟨r', h'⟩ := ih b (o + 7) i x hr.2.2 hx
     exact ⟨r', by rwa [show o + 7 * (i + 1) = o + 7 + 7 * i by omega]⟩
def cntX : Vl → Nat
 | .nil => 0
 | .cons _ k r => 1 + cntX k + cntX r
theorem len_le_cntX : ∀ t : Vl, t.len ≤ cntX t := by
 intro t
 induction t with
 | nil => exact Nat.le_refl _
 | cons h k r _ ih => simp only [Vl.len, cntX]; omega
def Vh.wf (h : Vh) : Prop := h.kind < 256 ∧ -9223372036854775808 ≤ h.n ∧ h.n ≤ 9223372036854775807 ∧ h.bits < 18446744073709551616 ∧ h.text.size ≤ 140737488351232 ∧ h.keys.length ≤ 140737488351232 ∧ ∀ n ∈ h.keys, n.size ≤ 140737488351232
def wfX : Vl → Prop
 | .nil => True
 | .cons h k r => h.wf ∧ wfX k ∧ wfX r ∧ k.len ≤ 140737488351232
theorem wfX_get {t : Vl} : ∀ {i : Nat} {x : Va}, wfX t → t.get i = some x → x.h.wf ∧ wfX x.items ∧ x.items.len ≤ 140737488351232 := by
 induction t with
 | nil => intro i x _ h; cases h
 | cons h k r _ ih =>
   intro i x hw hx
   cases i with
   | zero => cases hx; exact ⟨hw.1, hw.2.1, hw.2.2.2⟩
   | succ i => exact ih hw.2.2.1 hx
def wgX : Vl → Nat
 | .nil => 0
 | .cons h k r => (1 + h.text.size + h.keys.length + (h.keys.map ByteArray.size).sum + wgX k) + wgX r
theorem cnt_le_wgX (t : Vl) : cntX t ≤ wgX t := by
 induction t with
 | nil => exact Nat.le_refl _
 | cons h k r ih1 ih2 => simp only [cntX, wgX]; omega
def chkX (v : Va) : Nat :=
 if formF (.cons v.h v.items .nil) then (if deepF (.cons v.h v.items .nil) > 64 then 161 else 0) else 160
open Ieee
theorem k_sign : double.signWeight = 9223372036854775808 := by decide
theorem k_bin : double.binade = 4503599627370496 := by decide
theorem k_inf : double.infRung = 9218868437227405312 := by decide
theorem signed_zero (s : Bool) (m up : Nat) : signed s m up = 0 ↔ m = 0 := by
 have hp : 2 ^ up ≠ 0 := Nat.ne_of_gt (Nat.two_pow_pos _)
 have h : m <<< up = 0 ↔ m = 0 := by rw [Nat.shiftLeft_eq, Nat.mul_eq_zero]; exact ⟨fun h => h.resolve_right hp, .inl⟩
 unfold signed
 split <;> omega
theorem cmp_int (x y : Int) : ((some (compare x y) == some Ordering.eq) = true) ↔ x = y := by
 simp
theorem float_self (b : Nat) : Op.floatEq .f64 b b = decide (b % 9223372036854775808 ≤ 9218868437227405312) := by
 show (double.order b b == some .eq) = _
 unfold Format.order Format.read
 rw [k_sign, k_bin, k_inf]
 dsimp only
 by_cases h1 : b % 9223372036854775808 < 4503599627370496
 · rw [if_pos h1]
   simp [Datum.order]
   omega
 · rw [if_neg h1]
   by_cases h2 : b % 9223372036854775808 < 9218868437227405312
   · rw [if_pos h2]
     simp [Datum.order]
     omega
   · rw [if_neg h2]
     by_cases h3 : b % 9223372036854775808 = 9218868437227405312
     · rw [if_pos h3]
       simp [Datum.order]
       omega
     · rw [if_neg h3]
       simp [Datum.order]
       omega
theorem float_zero (b : Nat) : Op.floatEq .f64 b 0 = decide (b % 9223372036854775808 = 0) := by
 show (double.order b 0 == some .eq) = _
 have h0 : double.read 0 = .number false 0 double.leastPlace := by decide
 unfold Format.order
 rw [h0]
 unfold Format.read
 rw [k_sign, k_bin, k_inf]
 dsimp only
 have hz : ∀ up, signed false 0 up = 0 := fun up => (signed_zero _ _ _).2 rfl
 by_cases h1 : b % 9223372036854775808 < 4503599627370496
 · rw [if_pos h1]
   simp only [Datum.order, hz]
   rw [Bool.eq_iff_iff, cmp_int, signed_zero, decide_eq_true_iff]
 · rw [if_neg h1]
   by_cases h2 : b % 9223372036854775808 < 9218868437227405312
   · rw [if_pos h2]
     simp only [Datum.order, hz]
     rw [Bool.eq_iff_iff, cmp_int, signed_zero, decide_eq_true_iff]
     omega
   · rw [if_neg h2]
     by_cases h3 : b % 9223372036854775808 = 9218868437227405312
     · rw [if_pos h3]
       simp only [Datum.order]
       split <;> simp <;> omega
     · rw [if_neg h3]
       simp [Datum.order]
       omega
def kySz (l : List ByteArray) : Nat := (l.map ByteArray.size).sum
def kyGo (most : Nat) : Nat → List ByteArray → Nat
 | many, [] => many
 | many, s :: l => if many ≤ most then kyGo most (many + s.size) l else many
theorem kyGo_ge (most : Nat) : ∀ (l : List ByteArray) (many : Nat), many ≤ kyGo most many l := by
 intro l
 induction l with
 | nil => intro many; exact Nat.le_refl _
 | cons s l ih =>
   intro many
   unfold kyGo
   split
   · have := ih (many + s.size); omega
   · exact Nat.le_refl _
theorem kyGo_eq (most : Nat) : ∀ (l : List ByteArray) (many : Nat), kyGo most many l ≤ most → kyGo most many l = many + kySz l := by
 intro l
 induction l with
 | nil => intro many _; rfl
 | cons s l ih =>
   intro many
   unfold kyGo
   split
   · intro h; rw [ih _ h]; simp [kySz]; omega
   · intro h; omega
theorem kyGo_bd (most K : Nat) (hK : 140737488351232 ≤ K) : ∀ (l : List ByteArray) (many : Nat), (∀ n ∈ l, n.size ≤ 140737488351232) → many ≤ most + K → kyGo most many l ≤ most + K := by
 intro l
 induction l with
 | nil => intro many _ h; exact h
 | cons s l ih =>
   intro many hs h
   unfold kyGo
   split
   · exact ih _ (fun n hn => hs n (List.mem_cons_of_mem _ hn)) (by have := hs s (by simp); omega)
   · exact h
def wvL : Vl → Nat → Nat → Nat
 | .nil, _, m => m
 | .cons h k r, most, m => if m ≤ most then wvL r most (m + wvL k (most - m) (kyGo (most - m) (1 + h.text.size + h.keys.length) h.keys)) else m
def wvF (most : Nat) (v : Va) : Nat := wvL v.items most (kyGo most (1 + v.h.text.size + v.h.keys.length) v.h.keys)
theorem wvL_cons (h : Vh) (k r : Vl) (most m : Nat) (hm : m ≤ most) : wvL (.cons h k r) most m = wvL r most (m + wvF (most - m) ⟨h, k⟩) := by
 rw [wvL, if_pos hm]; rfl
theorem wvL_hi (t : Vl) (most m : Nat) (h : ¬ m ≤ most) : wvL t most m = m := by
 cases t with
 | nil => rfl
 | cons h k r => rw [wvL, if_neg (by assumption)]
theorem wvL_ge : ∀ (t : Vl) (most m : Nat), m ≤ wvL t most m := by
 intro t
 induction t with
 | nil => intro most m; exact Nat.le_refl _
 | cons h k r ihk ihr =>
   intro most m
   by_cases h1 : m ≤ most
   · rw [wvL, if_pos h1]
     exact Nat.le_trans (Nat.le_add_right _ _) (ihr most _)
   · rw [wvL_hi _ _ _ h1]; exact Nat.le_refl _
theorem wvL_eq : ∀ (t : Vl) (most m : Nat), wvL t most m ≤ most → wvL t most m = m + wgX t := by
 intro t
 induction t with
 | nil => intro most m _; rfl
 | cons h k r ihk ihr =>
   intro most m hle
   by_cases h1 : m ≤ most
   · rw [wvL, if_pos h1] at hle ⊢
     obtain ⟨q, hq⟩ : ∃ q, kyGo (most - m) (1 + h.text.size + h.keys.length) h.keys = q := ⟨_, rfl⟩
     obtain ⟨p, hp⟩ : ∃ p, wvL k (most - m) q = p := ⟨_, rfl⟩
     rw [hq, hp] at hle ⊢
     have h2 := wvL_ge r most (m + p)
     have h3 := wvL_ge k (most - m) q
     have h4 := ihk (most - m) q (by omega)
     have h5 := kyGo_eq (most - m) h.keys (1 + h.text.size + h.keys.length) (by omega)
     rw [ihr most _ hle]
     unfold kySz at h5
     simp only [wgX]
     omega
   · rw [wvL_hi _ _ _ h1] at hle; exact absurd hle h1
theorem wvL_bd : ∀ (t : Vl) (most m : Nat), wfX t → m ≤ most + 422212465053696 → wvL t most m ≤ most + 422212465053696 := by
 intro t
 induction t with
 | nil => intro most m _ h; exact h
 | cons h k r ihk ihr =>
   intro most m hwf hb
   obtain ⟨⟨-, -, -, -, f1, f2, f3⟩, hwk, hwr, hkl⟩ := hwf
   by_cases h1 : m ≤ most
   · rw [wvL, if_pos h1]
     have b1 := kyGo_bd (most - m) 422212465053696 (by omega) h.keys (1 + h.text.size + h.keys.length) f3 (by omega)
     have b2 := ihk (most - m) _ hwk b1
     exact ihr most _ hwr (by omega)
   · rw [wvL_hi _ _ _ h1]; exact hb
theorem wvF_bd (v : Va) (most : Nat) (h : v.h.wf) (hk : wfX v.items) : wvF most v ≤ most + 422212465053696 :=
 wvL_bd v.items most _ hk (kyGo_bd most 422212465053696 (by omega) v.h.keys _ h.2.2.2.2.2.2 (by have := h.2.2.2.2.1; have := h.2.2.2.2.2.1; omega))
theorem wvF_eq (v : Va) (most : Nat) (h : wvF most v ≤ most) : wvF most v = wgX (.cons v.h v.items .nil) := by
 have h1 := wvL_eq v.items most _ h
 have h2 := wvL_ge v.items most (kyGo most (1 + v.h.text.size + v.h.keys.length) v.h.keys)
 have h3 := kyGo_eq most v.h.keys (1 + v.h.text.size + v.h.keys.length) (by unfold wvF at h; omega)
 unfold kySz at h3
 unfold wvF
 simp only [wgX]
 omega
theorem wvF_hi (v : Va) (most : Nat) (h : ¬ wgX (.cons v.h v.items .nil) ≤ most) : ¬ wvF most v ≤ most := fun h2 => h (by rw [← wvF_eq v most h2]; exact h2)
def Vh.sm (h : Vh) : Prop := h.kind < 256 ∧ -9223372036854775808 ≤ h.n ∧ h.n ≤ 9223372036854775807 ∧ h.bits < 18446744073709551616 ∧ h.text.size ≤ 16777216 ∧ h.keys.length ≤ 16777216 ∧ ∀ n ∈ h.keys, n.size ≤ 16777216
def smX : Vl → Prop
 | .nil => True
 | .cons h k r => h.sm ∧ smX k ∧ smX r
theorem mem_sum : ∀ {l : List ByteArray} {n : ByteArray}, n ∈ l → n.size ≤ (l.map ByteArray.size).sum := by
 intro l
 induction l with
 | nil => intro n h; cases h
 | cons x l ih =>
   intro n h
   rcases List.mem_cons.1 h with rfl | h
   · simp
   · have := ih h; simp; omega
theorem sm_of_weight (B : Nat) (hB : B ≤ 16777216) : ∀ t : Vl, wfX t → wgX t ≤ B → smX t := by
 intro t
 induction t with
 | nil => intro _ _; exact trivial
 | cons h k r ihk ihr =>
   intro hwf hw
   simp only [wgX] at hw
   obtain ⟨⟨a1, a2, a3, a4, -, -, -⟩, hwk, hwr, -⟩ := hwf
   exact ⟨⟨a1, a2, a3, a4, by omega, by omega, fun n hn => by have := mem_sum hn; omega⟩, ihk hwk (by omega), ihr hwr (by omega)⟩
def defF : List Df → ByteArray → Pt
 | [], _ => .nil
 | d :: r, n => if d.name = n then d.kids else defF r n
def lastF : List Df → ByteArray → Pt → Pt
 | [], _, acc => acc
 | d :: r, n, acc => lastF r n (if d.name = n then d.kids else acc)
def allF (go : Pt → Nat → Rs) (n : ByteArray) : List Df → Nat → Rs
 | [], f => ⟨[], f, none⟩
 | d :: r, f => if d.name = n then (go d.kids f).seq (allF go n r) else allF go n r f
theorem bl_inj {a b : ByteArray} (h : bl a = bl b) : a = b := by rw [← mkB_bl a, ← mkB_bl b, h]
theorem not_mem_of_twice {d : Df} {r : List Df} (h : twice ((d :: r).map fun d => bl d.name) = false) : (∀ x ∈ r, x.name ≠ d.name) ∧ twice (r.map fun d => bl d.name) = false := by
 simp only [List.map_cons, twice, Bool.or_eq_false_iff] at h
 refine ⟨fun x hx e => ?_, h.2⟩
 have : (r.map fun d => bl d.name).contains (bl d.name) = true := by
  rw [List.contains_iff_mem]
  exact List.mem_map.2 ⟨x, hx, by rw [e]⟩
 rw [this] at h
 exact absurd h.1 (by decide)
theorem lastF_none {n : ByteArray} : ∀ (l : List Df) (acc : Pt), (∀ x ∈ l, x.name ≠ n) → lastF l n acc = acc
 | [], acc, _ => rfl
 | d :: r, acc, h => by
   rw [lastF, if_neg (h d (by simp))]
   exact lastF_none r acc fun x hx => h x (by simp [hx])
theorem defF_none {n : ByteArray} : ∀ (l : List Df), (∀ x ∈ l, x.name ≠ n) → defF l n = .nil
 | [], _ => rfl
 | d :: r, h => by
   rw [defF, if_neg (h d (by simp))]
   exact defF_none r fun x hx => h x (by simp [hx])
theorem allF_none {go : Pt → Nat → Rs} {n : ByteArray} : ∀ (l : List Df) (f : Nat), (∀ x ∈ l, x.name ≠ n) → allF go n l f = ⟨[], f, none⟩
 | [], f, _ => rfl
 | d :: r, f, h => by
   rw [allF, if_neg (h d (by simp))]
   exact allF_none r f fun x hx => h x (by simp [hx])
theorem lastF_eq (n : ByteArray) : ∀ (l : List Df) (acc : Pt), twice (l.map fun d => bl d.name) = false → lastF l n acc = if ∃ x ∈ l, x.name = n then defF l n else acc
 | [], acc, _ => by simp [lastF]
 | d :: r, acc, h => by
   obtain ⟨h1, h2⟩ := not_mem_of_twice h
   rw [lastF]
   by_cases hd : d.name = n
   · subst hd
     rw [if_pos rfl, lastF_none r _ h1, if_pos ⟨d, by simp, rfl⟩, defF, if_pos rfl]
   · rw [if_neg hd, lastF_eq n r acc h2, defF, if_neg hd]
     have : (∃ x ∈ d :: r, x.name = n) ↔ ∃ x ∈ r, x.name = n := by
      constructor
      · rintro ⟨x, hx, hn⟩
        rcases List.mem_cons.1 hx with rfl | hx
        · exact absurd hn hd
        · exact ⟨x, hx, hn⟩
      · rintro ⟨x, hx, hn⟩
        exact ⟨x, List.mem_cons_of_mem _ hx, hn⟩
     by_cases hr : ∃ x ∈ r, x.name = n
     · rw [if_pos hr, if_pos (this.2 hr)]
     · rw [if_neg hr, if_neg fun h => hr (this.1 h)]
theorem lastF_first (n : ByteArray) (l : List Df) (h : twice (l.map fun d => bl d.name) = false) : lastF l n .nil = defF l n := by
 rw [lastF_eq n l .nil h]
 split
 · rfl
 · rename_i hn
   exact (defF_none l fun x hx e => hn ⟨x, hx, e⟩).symm
theorem seq_nil (a : Rs) : (a.seq fun f => ⟨[], f, none⟩) = a := by
 cases a with
 | mk o f e =>
   cases e with
   | some x => rfl
   | none => simp [Rs.seq]
theorem allF_first (go : Pt → Nat → Rs) (hgo : ∀ f, go .nil f = ⟨[], f, none⟩) (n : ByteArray) : ∀ (l : List Df) (f : Nat), twice (l.map fun d => bl d.name) = false → allF go n l f = go (defF l n) f
 | [], f, _ => (hgo f).symm
 | d :: r, f, h => by
   obtain ⟨h1, h2⟩ := not_mem_of_twice h
   rw [allF, defF]
   by_cases hd : d.name = n
   · subst hd
     rw [if_pos rfl, if_pos rfl]
     have : allF go d.name r = fun f => ⟨[], f, none⟩ := funext fun g => allF_none r g h1
     rw [this, seq_nil]
   · rw [if_neg hd, if_neg hd]
     exact allF_first go hgo n r f h2
theorem defF_mem {l : List Df} {n : ByteArray} (h : defF l n ≠ .nil) : ∃ d ∈ l, d.kids = defF l n := by
 induction l with
 | nil => exact absurd rfl h
 | cons d r ih =>
   by_cases hd : d.name = n
   · exact ⟨d, by simp, by rw [defF, if_pos hd]⟩
   · have he : defF (d :: r) n = defF r n := by rw [defF, if_neg hd]
     rw [he] at h ⊢
     obtain ⟨x, hx, hk⟩ := ih h
     exact ⟨x, List.mem_cons_of_mem _ hx, hk⟩
def clampF (m : Nat) (f : Int) : Nat := (max (min f m) 0).toNat
theorem clamp_le (m : Nat) (f : Int) : clampF m f ≤ m := by unfold clampF; omega
theorem clamp_mono (m : Nat) (f d : Int) (h : 0 ≤ d) : clampF m f ≤ clampF m (f + d) := by unfold clampF; omega
theorem clamp_add (m : Nat) (f d : Int) (hf : 0 ≤ f) (hd : 0 ≤ d) (h : f + d ≤ m) : clampF m (f + d) = clampF m f + d.toNat := by unfold clampF; omega
def lookG : Vl → Nat → Option Nat
 | .nil, m => some m
 | .cons h k r, m => if plainF h k.len then
    match lookG k (if 6 ≤ h.kind then 1 else 0) with
    | none => none
    | some d => lookG r (max m (d + 1))
   else none
def lookV (v : Va) : Option Nat := if plainF v.h v.items.len then lookG v.items (if 6 ≤ v.h.kind then 1 else 0) else none
theorem lookG_cons (h : Vh) (k r : Vl) (m : Nat) : lookG (.cons h k r) m = match lookV ⟨h, k⟩ with | none => none | some d => lookG r (max m (d + 1)) := by
 rw [lookG, lookV]
 by_cases hp : plainF h k.len = true
 · rw [if_pos hp]; dsimp only; rw [if_pos hp]
 · rw [if_neg hp]; dsimp only; rw [if_neg hp]
theorem plain_kind {h : Vh} {n : Nat} (hp : plainF h n = true) : 1 ≤ h.kind ∧ h.kind ≤ 7 ∧ (h.kind < 6 → n = 0) := by
 unfold plainF at hp
 simp only [Bool.and_eq_true, decide_eq_true_eq] at hp
 obtain ⟨⟨⟨⟨⟨h1, -⟩, -⟩, -⟩, -⟩, h2⟩ := hp
 refine ⟨h1.1, h1.2, fun hk => ?_⟩
 rw [if_neg (by omega)] at h2
 simp only [Bool.and_eq_true, Bool.or_eq_true, decide_eq_true_eq] at h2
 rcases h2.2 with h3 | h3
 · omega
 · exact h3
theorem len_zero {k : Vl} (h : k.len = 0) : k = .nil := by
 cases k with
 | nil => rfl
 | cons _ _ _ => exact absurd h (Nat.succ_ne_zero _)
theorem lookG_eq : ∀ (l : Vl) (m : Nat), 1 ≤ m → lookG l m = if formF l then some (max m (deepF l + 1)) else none
 | .nil, m, hm => by
   simp only [lookG, formF, deepF, if_true]
   congr 1
   omega
 | .cons h k r, m, hm => by
   rw [lookG, formF, deepF]
   by_cases hp : plainF h k.len = true
   · obtain ⟨p1, p2, p3⟩ := plain_kind hp
     rw [if_pos hp]
     by_cases h6 : 6 ≤ h.kind
     · rw [if_pos h6, lookG_eq k 1 (Nat.le_refl _), if_pos (show h.kind = 6 ∨ h.kind = 7 by omega)]
       by_cases hk : formF k = true
       · rw [if_pos hk]
         dsimp only
         rw [lookG_eq r _ (by omega)]
         by_cases hr : formF r = true
         · rw [if_pos hr, if_pos (by rw [hp, hk, hr]; rfl)]
           congr 1
           omega
         · rw [if_neg hr, if_neg (by simp [hr])]
       · rw [if_neg hk]
         dsimp only
         rw [if_neg (by simp [hk])]
     · have hz := len_zero (p3 (by omega))
       subst hz
       rw [if_neg h6, if_neg (show ¬ (h.kind = 6 ∨ h.kind = 7) by omega), lookG]
       dsimp only
       rw [lookG_eq r _ (by omega)]
       by_cases hr : formF r = true
       · rw [if_pos hr, if_pos (by rw [hp, hr]; rfl)]
         congr 1
         omega
       · rw [if_neg hr, if_neg (by simp [hr])]
   · rw [if_neg hp, if_neg (by simp [hp])]
theorem lookV_eq (v : Va) : lookV v = if formF (.cons v.h v.items .nil) then some (deepF (.cons v.h v.items .nil)) else none := by
 have h := lookG_eq (.cons v.h v.items .nil) 1 (Nat.le_refl _)
 rw [lookG_cons] at h
 have hv : (⟨v.h, v.items⟩ : Va) = v := rfl
 rw [hv] at h
 cases hl : lookV v with
 | none =>
   rw [hl] at h
   dsimp only at h
   by_cases hf : formF (.cons v.h v.items .nil) = true
   · rw [if_pos hf] at h; cases h
   · rw [if_neg hf]
 | some d =>
   rw [hl] at h
   simp only [lookG] at h
   by_cases hf : formF (.cons v.h v.items .nil) = true
   · rw [if_pos hf] at h ⊢
     injection h with h
     congr 1
     omega
   · rw [if_neg hf] at h; cases h
theorem chk_look (v : Va) : chkX v = match lookV v with | none => 160 | some d => if d > 64 then 161 else 0 := by
 rw [lookV_eq, chkX]
 split
 · rfl
 · rfl
theorem chk_oth (o : ByteArray) (v : Va) : chkX (othV o v) = chkX v := by
 have h1 := oth_form o (.cons v.h v.items .nil)
 have h2 := oth_deep o (.cons v.h v.items .nil)
 simp only [othL] at h1 h2
 unfold chkX othV
 rw [h1, h2]
def RowP (ok : Nat → Prop) (w : World) : List Pc → Nat → Nat → Prop
 | [], _, _ => True
 | p :: r, b, o => (w.cell? ⟨b, o, none⟩ = some (.int .i64 p.pos) ∧ w.cell? ⟨b, o + 1, none⟩ = some (.bool p.hole) ∧ w.cell? ⟨b, o + 2, none⟩ = some (.string p.text)) ∧
   RowX ok w (.cons p.val.h p.val.items .nil) b (o + 3) ∧ RowP ok w r b (o + 10)
def Pcs (ok : Nat → Prop) (w : World) (v : Value) (l : List Pc) : Prop :=
 ∃ (a : Option Addr) (c : Nat), v = .slice a l.length c ∧ l.length ≤ c ∧ c ≤ maxLen ∧ (l ≠ [] → ∃ b o, a = some ⟨b, o, none⟩ ∧ ok b ∧ RowP ok w l b o)
theorem RowP.kept {ok : Nat → Prop} {w w' : World} (hk : Kept ok w w') : ∀ (l : List Pc) (b o : Nat), ok b → RowP ok w l b o → RowP ok w' l b o := by
 intro l
 induction l with
 | nil => intro b o _ _; exact trivial
 | cons p r ih =>
   intro b o hb h
   obtain ⟨⟨c0, c1, c2⟩, hx, hr⟩ := h
   exact ⟨⟨(hk.cell hb _).trans c0, (hk.cell hb _).trans c1, (hk.cell hb _).trans c2⟩, hx.kept hk _ _ _ hb, ih b _ hb hr⟩
theorem RowP.mono {ok ok' : Nat → Prop} {w : World} (hk : ∀ b, ok b → ok' b) : ∀ (l : List Pc) (b o : Nat), RowP ok w l b o → RowP ok' w l b o := by
 intro l
 induction l with
 | nil => intro b o _; exact trivial
 | cons p r ih =>
   intro b o h
   obtain ⟨hc, hx, hr⟩ := h
   exact ⟨hc, hx.mono hk _ _ _, ih b _ hr⟩
theorem Pcs.kept {ok : Nat → Prop} {w w' : World} {v : Value} {l : List Pc} (h : Pcs ok w v l) (hk : Kept ok w w') : Pcs ok w' v l := by
 obtain ⟨a, c, hv, h1, h2, h3⟩ := h
 refine ⟨a, c, hv, h1, h2, fun hl => ?_⟩
 obtain ⟨b, o, ha, hb, hc⟩ := h3 hl
 exact ⟨b, o, ha, hb, hc.kept hk _ _ _ hb⟩
theorem Pcs.mono {ok ok' : Nat → Prop} {w : World} {v : Value} {l : List Pc} (h : Pcs ok w v l) (hk : ∀ b, ok b → ok' b) : Pcs ok' w v l := by
 obtain ⟨a, c, hv, h1, h2, h3⟩ := h
 refine ⟨a, c, hv, h1, h2, fun hl => ?_⟩
 obtain ⟨b, o, ha, hb, hc⟩ := h3 hl
 exact ⟨b, o, ha, hk b hb, hc.mono hk _ _ _⟩
theorem Pcs.nil (ok : Nat → Prop) (w : World) : Pcs ok w (.slice none 0 0) [] := ⟨none, 0, rfl, Nat.le_refl _, by decide, fun h => absurd rfl h⟩
theorem RowP.snoc {ok : Nat → Prop} {w : World} (p : Pc) : ∀ (l : List Pc) (b o : Nat), RowP ok w l b o → RowP ok w [p] b (o + 10 * l.length) → RowP ok w (l ++ [p]) b o := by
 intro l
 induction l with
 | nil => intro b o _ h; exact h
 | cons x r ih =>
   intro b o h hp
   obtain ⟨hc, hx, hr⟩ := h
   refine ⟨hc, hx, ih b (o + 10) hr ?_⟩
   rwa [show o + 10 + 10 * r.length = o + 10 * (r.length + 1) by omega]
theorem RowP.at {ok : Nat → Prop} {w : World} : ∀ (l : List Pc) (b o i : Nat) (p : Pc), RowP ok w l b o → l[i]? = some p → RowP ok w [p] b (o + 10 * i) := by
 intro l
 induction l with
 | nil => intro b o i p _ h; simp at h
 | cons x r ih =>
   intro b o i p h hi
   cases i with
   | zero =>
     simp at hi
     subst hi
     exact ⟨h.1, h.2.1, trivial⟩
   | succ i =>
     have := ih b (o + 10) i p h.2.2 (by simpa using hi)
     rwa [show o + 10 * (i + 1) = o + 10 + 10 * i by omega]
def endF (r : Rs) : List Pc × Nat × Int := match r.err with | none => (r.out, 0, 0) | some (e, p) => (r.out, e, p)
def runT (t : Tm) (v : Va) (fuel calls : Int) : List Pc × Nat × Int :=
 if t.check ≠ 0 then ([], t.check, 0)
 else if chkX v ≠ 0 then ([], chkX v, 0)
 else endF (runF (defF t.defs) (clampF 256 calls) t.main v (clampF 1000000 fuel))
theorem run_more_t (t : Tm) (v : Va) (fuel calls more deeper : Int) (h1 : 0 ≤ fuel) (h2 : fuel ≤ 5000) (h3 : 0 ≤ more) (h4 : more ≤ 5000) (h5 : 0 ≤ deeper) :
 (runT t v fuel calls).1 <+: (runT t v (fuel + more) (calls + deeper)).1 ∧
 ((runT t v fuel calls).2.1 ≠ 202 → (runT t v fuel calls).2.1 ≠ 203 → runT t v fuel calls = runT t v (fuel + more) (calls + deeper)) := by
 unfold runT
 split
 · exact ⟨List.prefix_refl _, fun _ _ => rfl⟩
 · split
   · exact ⟨List.prefix_refl _, fun _ _ => rfl⟩
   · rw [clamp_add 1000000 fuel more h1 h3 (by omega)]
     have H := run_more (defF t.defs) _ _ (clamp_mono 256 calls deeper h5) t.main v (clampF 1000000 fuel) more.toNat
     rcases H with ⟨ha, hb, ho, hf⟩ | ⟨e, p, ha, n1, n2, hb, ho⟩ | ⟨e, p, ha, n1, ho⟩
     · simp only [endF, ha, hb, ho]
       exact ⟨List.prefix_refl _, fun _ _ => trivial⟩
     · simp only [endF, ha, hb, ho]
       exact ⟨List.prefix_refl _, fun _ _ => trivial⟩
     · have hout : ∀ r : Rs, (endF r).1 = r.out := fun r => by unfold endF; split <;> rfl
       rw [hout, hout]
       refine ⟨ho, fun q1 q2 => ?_⟩
       simp only [endF, ha] at q1 q2
       rcases n1 with rfl | rfl
       · exact absurd rfl q1
       · exact absurd rfl q2
theorem run_traces_t (t : Tm) (v : Va) (o : ByteArray) (fuel calls : Int) :
 (runT t (othV o v) fuel calls).1.map trcF = (runT t v fuel calls).1.map trcF ∧ (runT t (othV o v) fuel calls).2 = (runT t v fuel calls).2 := by
 unfold runT
 split
 · exact ⟨rfl, rfl⟩
 · rw [chk_oth]
   split
   · exact ⟨rfl, rfl⟩
   · obtain ⟨h1, h2, h3⟩ := run_other (defF t.defs) (clampF 256 calls) t.main v o (clampF 1000000 fuel)
     unfold endF
     rw [← h3]
     split
     · exact ⟨h1.symm, rfl⟩
     · exact ⟨h1.symm, rfl⟩
theorem run_ok {t : Tm} {v : Va} {fuel calls : Int} (h : (runT t v fuel calls).2.1 = 0) : t.check = 0 ∧ chkX v = 0 ∧
 ((runF (defF t.defs) (clampF 256 calls) t.main v (clampF 1000000 fuel)).err = none ∨ ∃ p, (runF (defF t.defs) (clampF 256 calls) t.main v (clampF 1000000 fuel)).err = some (0, p)) := by
 unfold runT at h
 split at h
 · exact absurd h (by assumption)
 · split at h
   · exact absurd h (by assumption)
   · refine ⟨by omega, by omega, ?_⟩
     unfold endF at h
     split at h
     · exact .inl (by assumption)
     · rename_i e p he
       have hz : e = 0 := h
       rw [hz] at he
       exact .inr ⟨p, he⟩
def NoZ (r : Rs) : Prop := ∀ p, r.err ≠ some (0, p)
theorem noz_seq {a : Rs} {k : Nat → Rs} (h : NoZ a) (hk : ∀ f, NoZ (k f)) : NoZ (a.seq k) := by
 cases ha : a.err with
 | some x => simp only [NoZ, Rs.seq, ha]; intro p hp; exact h p (by rw [ha]; exact hp)
 | none => simp only [NoZ, Rs.seq, ha]; exact hk _
theorem noz_list {one : Hd → Pt → Pt → Nat → Rs} (h : ∀ x k e f, NoZ (one x k e f)) : ∀ l f, NoZ (listF one l f)
 | .nil, f => fun p hp => by cases hp
 | .cons x k e r, f => noz_seq (h x k e f) fun f => noz_list h r f
theorem noz_burn {pos : Int} {f : Nat} {a : Nat → Rs} (h : ∀ g, NoZ (a g)) : NoZ (burnF pos f a) := by
 cases f with
 | zero => intro p hp; cases hp
 | succ f => exact h f
theorem noz_items {pos : Int} {go : Va → Nat → Rs} (h : ∀ x f, NoZ (go x f)) : ∀ l f, NoZ (itemsF pos go l f)
 | .nil, f => fun p hp => by cases hp
 | .cons x i r, f => noz_seq (noz_burn fun g => h _ g) fun f => noz_items h r f
theorem getF_err : ∀ (l : List ByteArray) (v : Va) (x : Nat), getF l v = .error x → x = 200 ∨ x = 201
 | [], v, x, h => by cases h
 | n :: r, v, x, h => by
   unfold getF at h
   split at h
   · split at h
     · split at h
       · exact getF_err r _ x h
       · injection h with h; exact .inl h.symm
     · injection h with h; exact .inl h.symm
   · injection h with h; exact .inr h.symm
theorem noz_ev {D : ByteArray → Pt} {C : Nat} : ∀ n dot root deep h k e f, NoZ (evF D C n dot root deep h k e f)
 | 0, dot, root, deep, h, k, e, f => fun p hp => by cases hp
 | n + 1, dot, root, deep, h, k, e, f => by
   have IL : ∀ dot root deep l f, NoZ (listF (evF D C n dot root deep) l f) := fun dot root deep l f => noz_list (fun x k e f => noz_ev n dot root deep x k e f) l f
   simp only [evF]
   refine noz_burn fun f => ?_
   split
   · intro p hp; cases hp
   · cases hg : getF h.names (if h.root = true then root else dot) with
     | error x =>
       intro p hp
       have hx := getF_err _ _ _ hg
       simp only [Option.some.injEq, Prod.mk.injEq] at hp
       omega
     | ok v =>
       dsimp only
       split
       · intro p hp; cases hp
       · split
         · exact IL _ _ _ _ _
         · split
           · split
             · split
               · exact IL _ _ _ _ _
               · exact noz_items (fun x f => IL _ _ _ _ _) _ _
             · intro p hp; cases hp
           · split
             · intro p hp; cases hp
             · exact IL _ _ _ _ _
theorem run_ok' {t : Tm} {v : Va} {fuel calls : Int} (h : (runT t v fuel calls).2.1 = 0) : t.check = 0 ∧ chkX v = 0 ∧ (runF (defF t.defs) (clampF 256 calls) t.main v (clampF 1000000 fuel)).err = none := by
 obtain ⟨h1, h2, h3⟩ := run_ok h
 refine ⟨h1, h2, ?_⟩
 rcases h3 with h3 | ⟨p, h3⟩
 · exact h3
 · exact absurd h3 (noz_list (fun x k e f => noz_ev _ _ _ _ x k e f) _ _ p)
theorem run_is {t : Tm} {v : Va} {fuel calls : Int} (h1 : t.check = 0) (h2 : chkX v = 0) : runT t v fuel calls = endF (runF (defF t.defs) (clampF 256 calls) t.main v (clampF 1000000 fuel)) := by
 unfold runT
 rw [if_neg (by omega), if_neg (by omega)]
theorem run_twice_t (t u : Tm) (hu : u.main = t.main.app t.main) (hd : u.defs = t.defs) (v : Va) (h : (runT t v 300 9).2.1 = 0) (hc : u.check = 0) :
 runT u v 600 9 = ((runT t v 300 9).1 ++ (runT t v 300 9).1, 0, 0) := by
 obtain ⟨h1, h2, h3⟩ := run_ok' h
 rw [run_is hc h2, run_is h1 h2, hu, hd]
 have e1 : clampF 1000000 300 = 300 := by decide
 have e2 : clampF 1000000 600 = 300 + 300 := by decide
 rw [e1] at h3 ⊢
 rw [e2]
 obtain ⟨q1, q2⟩ := run_twice (defF t.defs) (clampF 256 9) t.main v 300 h3
 simp only [endF, q1, q2, h3]
def rngV (nm : ByteArray) (v : Va) (n : Nat) : Va := ⟨⟨7, false, 0, 0, .empty, [nm]⟩, .cons ⟨6, false, 0, 0, .empty, []⟩ (repV v n) .nil⟩
theorem rng_get (nm : ByteArray) (v : Va) (n : Nat) : getF [nm] (rngV nm v n) = .ok ⟨⟨6, false, 0, 0, .empty, []⟩, repV v n⟩ := by
 simp [getF, rngV, idxF, Vl.get]
theorem run_range_t (t w : Tm) (hd : Hd) (nm : ByteArray) (hw : w.main = .cons hd t.main .nil .nil) (hk : hd.kind = 4) (hr : hd.root = false) (hn : hd.names = [nm]) (hds : w.defs = t.defs) (v : Va) (n : Nat) (hn9 : n ≤ 9)
 (h : (runT t v 300 9).2.1 = 0) (hg : (runT w (rngV nm v n) 3000 9).2.1 = 0) (hu : rootF t.main = false) : (runT w (rngV nm v n) 3000 9).1 = repO (runT t v 300 9).1 n := by
 obtain ⟨h1, h2, h3⟩ := run_ok' h
 obtain ⟨g1, g2, g3⟩ := run_ok' hg
 rw [run_is g1 g2, run_is h1 h2, hw, hds]
 have e1 : clampF 1000000 300 = 300 := by decide
 have e2 : clampF 1000000 3000 = 3000 := by decide
 rw [e1] at h3 ⊢
 rw [e2]
 have hgt := rng_get nm v n
 rw [← hn] at hgt
 obtain ⟨q1, q2⟩ := run_range (defF t.defs) (clampF 256 9) t.main v hd ⟨7, false, 0, 0, .empty, [nm]⟩ n hn9 300 3000 (by decide) (by decide) hk hr hgt hu h3
 unfold rngV
 simp only [endF, q1, q2, h3]
theorem repO_snoc (l : List Pc) : ∀ n, repO l (n + 1) = repO l n ++ l
 | 0 => by simp [repO]
 | n + 1 => by
   show l ++ repO l (n + 1) = (l ++ repO l n) ++ l
   rw [repO_snoc l n, List.append_assoc]
end Go.Proofs.YtepcpgdfbaklfaaGreatDoor.Ev
