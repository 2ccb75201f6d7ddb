/-
  Plain laws on DOCTYPEs: what the program takes, part by part, is what the states of the standard come to. No program in sight, no condition.
-/
import Derived.Test.YtileclmmobkcaaaDoorMka
namespace Go.Proofs.YtileclmmobkcaaaDoor

/-- A blank; a byte's small letter. -/
def bsp (c : UInt8) : Bool := decide ((c.toNat : Int) = 9 ∨ (c.toNat : Int) = 10 ∨ (c.toNat : Int) = 12 ∨ (c.toNat : Int) = 13 ∨ (c.toNat : Int) = 32)
def lwB (c : UInt8) : UInt8 := if 65 ≤ c.toNat ∧ c.toNat ≤ 90 then c + 32 else c
def lw (l : List UInt8) : List UInt8 := l.map lwB
/-- Does a word stand there, in letters of either size? -/
def wd (w r : List UInt8) : Bool := decide (w.length ≤ r.length) && (lw (r.take w.length) == w)
def db (r : List UInt8) : List UInt8 := r.dropWhile bsp

def wPub : List UInt8 := [112, 117, 98, 108, 105, 99]
def wSys : List UInt8 := [115, 121, 115, 116, 101, 109]

/-- One byte of the standard's states: the token and that it ends there; or how many bytes more are passed over, the next state, the quote, the token. -/
inductive DS where
  | stop (t : Tk)
  | go (k st : Nat) (q : UInt8) (t : Tk)

def isQ (c : UInt8) : Bool := c == 34 || c == 39
/-- The states: 1 before, 2 name, 3 after, 4 beforePublic, 5 public, 7 beforeSystem, 8 system, 9 afterSystem, 10 bogus, 11 maybeSystem. -/
def dS (st : Nat) (q : UInt8) (t : Tk) (c : UInt8) (r : List UInt8) : DS :=
  if st = 1 then (if bsp c then .go 0 1 q t else if c = 62 then .stop { t with q := true } else .go 0 2 q { t with name := whB (lwB c) })
  else if st = 2 then (if bsp c then .go 0 3 q t else if c = 62 then .stop t else .go 0 2 q { t with name := t.name ++ whB (lwB c) })
  else if st = 3 then (if bsp c then .go 0 3 q t else if c = 62 then .stop t else if wd wPub (c :: r) then .go 5 4 q t else if wd wSys (c :: r) then .go 5 7 q t else .go 0 10 q { t with q := true })
  else if st = 4 then (if bsp c then .go 0 4 q t else if isQ c then .go 0 5 c { t with hp := true } else if c = 62 then .stop { t with q := true } else .go 0 10 q { t with q := true })
  else if st = 7 then (if bsp c then .go 0 7 q t else if isQ c then .go 0 8 c { t with hs := true } else if c = 62 then .stop { t with q := true } else .go 0 10 q { t with q := true })
  else if st = 5 then (if c = q then .go 0 11 q t else if c = 62 then .stop { t with q := true } else .go 0 5 q { t with pub := t.pub ++ whB c })
  else if st = 11 then (if bsp c then .go 0 11 q t else if c = 62 then .stop t else if isQ c then .go 0 8 c { t with hs := true } else .go 0 10 q { t with q := true })
  else if st = 8 then (if c = q then .go 0 9 q t else if c = 62 then .stop { t with q := true } else .go 0 8 q { t with sys := t.sys ++ whB c })
  else if st = 9 then (if bsp c then .go 0 9 q t else if c = 62 then .stop t else .go 0 10 q t)
  else (if c = 62 then .stop t else .go 0 st q t)
/-- All of them; what is left behind. -/
def dR (k st : Nat) (q : UInt8) (t : Tk) : List UInt8 → Tk × List UInt8 × Bool
  | [] => (if st ≠ 10 then { t with q := true } else t, [], false)
  | c :: r =>
    if 0 < k then dR (k - 1) st q t r
    else match dS st q t c r with
      | .stop t' => (t', r, true)
      | .go k' st' q' t' => dR k' st' q' t' r
theorem dR_skip (k st : Nat) (q : UInt8) (t : Tk) (r : List UInt8) : dR k st q t r = dR 0 st q t (r.drop k) := by
  induction k generalizing r with
  | zero => rfl
  | succ k ih =>
    match r with
    | [] => rfl
    | c :: r => rw [dR, if_pos (by omega), Nat.add_sub_cancel, ih]; rfl
theorem dR_stop (st : Nat) (q : UInt8) (t : Tk) (c : UInt8) (r : List UInt8) (t' : Tk) (h : dS st q t c r = .stop t') : dR 0 st q t (c :: r) = (t', r, true) := by
  rw [dR, if_neg (by omega), h]
theorem dR_go (st : Nat) (q : UInt8) (t : Tk) (c : UInt8) (r : List UInt8) (k' st' : Nat) (q' : UInt8) (t' : Tk) (h : dS st q t c r = .go k' st' q' t') : dR 0 st q t (c :: r) = dR 0 st' q' t' (r.drop k') := by
  rw [dR, if_neg (by omega), h]
  exact dR_skip _ _ _ _ _
theorem dR_nil (st : Nat) (q : UInt8) (t : Tk) : dR 0 st q t [] = (if st ≠ 10 then { t with q := true } else t, [], false) := rfl

/-- The program's end: a >, or the end of the text. -/
def clo (quirks : Bool) (t : Tk) (r : List UInt8) : Tk × List UInt8 × Bool :=
  match r with
  | [] => (if quirks then { t with q := true } else t, [], false)
  | _ :: r => (if quirks then { t with q := true } else t, r, true)
def rst (t : Tk) (r : List UInt8) : Tk × List UInt8 × Bool := clo false t (r.dropWhile (· != 62))
/-- What ends an identifier. -/
def iq (q c : UInt8) : Bool := c == q || c == 62
def eb (r : List UInt8) : Bool := r.isEmpty || r.head? == some 62
/-- From the system identifier on. -/
def dtS (t : Tk) (r : List UInt8) : Tk × List UInt8 × Bool :=
  match r with
  | [] => clo false { t with q := true } []
  | q :: r1 =>
    if isQ q then
      let t2 := { t with hs := true, sys := wh (r1.takeWhile fun c => !iq q c) }
      match r1.dropWhile fun c => !iq q c with
      | [] => clo true { t2 with q := true } []
      | c :: r2 =>
        if c = q then (match db r2 with
          | [] => clo true t2 []
          | d :: r3 => rst t2 (d :: r3))
        else clo true { t2 with q := true } (c :: r2)
    else rst { t with q := true } (q :: r1)
/-- From the public identifier on. -/
def dtP (t : Tk) (r : List UInt8) : Tk × List UInt8 × Bool :=
  match r with
  | [] => clo false { t with q := true } []
  | q :: r1 =>
    if isQ q then
      let t2 := { t with hp := true, pub := wh (r1.takeWhile fun c => !iq q c) }
      match r1.dropWhile fun c => !iq q c with
      | [] => clo true { t2 with q := true } []
      | c :: r2 =>
        if c = q then (if eb (db r2) then clo (db r2).isEmpty t2 (db r2) else dtS t2 (db r2))
        else clo true { t2 with q := true } (c :: r2)
    else rst { t with q := true } (q :: r1)
/-- What ends a name. -/
def inm (c : UInt8) : Bool := !(c == 62 || bsp c)
/-- Behind the name and blanks. -/
def dtA (t : Tk) (r : List UInt8) : Tk × List UInt8 × Bool :=
  if eb r then clo r.isEmpty t r
  else if wd wPub r then dtP t (db (r.drop 6))
  else if wd wSys r then dtS t (db (r.drop 6))
  else rst { t with q := true } r
/-- A DOCTYPE, from behind its word on. -/
def dt (r : List UInt8) : Tk × List UInt8 × Bool :=
  let r1 := db r
  if eb r1 then clo true { kind := 5 } r1
  else dtA { kind := 5, name := wh (lw (r1.takeWhile inm)) } (db (r1.dropWhile inm))

theorem dR_10 (q : UInt8) (t : Tk) (r : List UInt8) : dR 0 10 q t r = rst t r := by
  induction r with
  | nil => rfl
  | cons c r ih =>
    by_cases h : c = 62
    · subst h
      rw [dR_stop 10 q t 62 r t (by simp [dS])]
      simp [rst, clo]
    · rw [dR_go 10 q t c r 0 10 q t (by simp [dS, h]), List.drop_zero, ih]
      unfold rst
      rw [List.dropWhile_cons_of_pos (by simpa using h)]
theorem db_pos (c : UInt8) (r : List UInt8) (h : bsp c = true) : db (c :: r) = db r := List.dropWhile_cons_of_pos h
theorem db_neg (c : UInt8) (r : List UInt8) (h : ¬ bsp c = true) : db (c :: r) = c :: r := List.dropWhile_cons_of_neg h
theorem db_head (r r' : List UInt8) (d : UInt8) (h : db r = d :: r') : bsp d = false := by
  induction r with
  | nil => cases h
  | cons c r ih =>
    by_cases hb : bsp c = true
    · rw [db_pos _ _ hb] at h; exact ih h
    · rw [db_neg _ _ hb] at h
      cases h
      simpa using hb
theorem bsp62 : bsp 62 = false := by decide
theorem rst_hit (t : Tk) (r : List UInt8) : rst t (62 :: r) = (t, r, true) := by simp [rst, clo]
theorem rst_miss (t : Tk) (c : UInt8) (r : List UInt8) (h : c ≠ 62) : rst t (c :: r) = rst t r := by
  unfold rst; rw [List.dropWhile_cons_of_pos (by simpa using h)]
theorem dR_9 (q : UInt8) (t : Tk) (r : List UInt8) : dR 0 9 q t r = (match db r with | [] => clo true t [] | d :: r3 => rst t (d :: r3)) := by
  induction r with
  | nil => rfl
  | cons c r ih =>
    by_cases hb : bsp c = true
    · rw [db_pos _ _ hb, dR_go 9 q t c r 0 9 q t (by simp [dS, hb])]; exact ih
    · rw [db_neg _ _ hb]
      have hb' : bsp c = false := by simpa using hb
      by_cases h : c = 62
      · subst h
        rw [dR_stop 9 q t 62 r t (by simp [dS, bsp62])]
        exact (rst_hit t r).symm
      · rw [dR_go 9 q t c r 0 10 q t (by simp [dS, hb', h]), List.drop_zero, dR_10]
        exact (rst_miss _ _ _ h).symm
theorem iq_q (q : UInt8) : iq q q = true := by simp [iq]
theorem iq_g (q : UInt8) : iq q 62 = true := by simp [iq]
theorem iq_no (q c : UInt8) (h1 : c ≠ q) (h2 : c ≠ 62) : iq q c = false := by simp [iq, h1, h2]
/-- In a system identifier. -/
theorem dR_8 (q : UInt8) (hq : q ≠ 62) (t : Tk) (r : List UInt8) : dR 0 8 q t r =
    (match r.dropWhile fun c => !iq q c with
      | [] => clo true { t with sys := t.sys ++ wh (r.takeWhile fun c => !iq q c), q := true } []
      | c :: r2 => if c = q then dR 0 9 q { t with sys := t.sys ++ wh (r.takeWhile fun c => !iq q c) } r2 else clo true { t with sys := t.sys ++ wh (r.takeWhile fun c => !iq q c), q := true } (c :: r2)) := by
  induction r generalizing t with
  | nil => simp [dR, clo, wh]
  | cons c r ih =>
    by_cases h : c = q
    · subst h
      rw [dR_go 8 c t c r 0 9 c t (by simp [dS]), List.drop_zero, List.dropWhile_cons_of_neg (by simp [iq_q]), List.takeWhile_cons_of_neg (by simp [iq_q])]
      dsimp only
      rw [if_pos rfl]
      simp [wh]
    · by_cases h2 : c = 62
      · subst h2
        rw [dR_stop 8 q t 62 r { t with q := true } (by simp [dS, h]), List.dropWhile_cons_of_neg (by simp [iq_g]), List.takeWhile_cons_of_neg (by simp [iq_g])]
        dsimp only
        rw [if_neg h]
        simp [clo, wh]
      · rw [dR_go 8 q t c r 0 8 q { t with sys := t.sys ++ whB c } (by simp [dS, h, h2]), List.drop_zero, ih, List.dropWhile_cons_of_pos (by simp [iq_no q c h h2]), List.takeWhile_cons_of_pos (by simp [iq_no q c h h2])]
        dsimp only
        rw [wh_cons]
        simp only [List.append_assoc]
theorem dR_5 (q : UInt8) (hq : q ≠ 62) (t : Tk) (r : List UInt8) : dR 0 5 q t r =
    (match r.dropWhile fun c => !iq q c with
      | [] => clo true { t with pub := t.pub ++ wh (r.takeWhile fun c => !iq q c), q := true } []
      | c :: r2 => if c = q then dR 0 11 q { t with pub := t.pub ++ wh (r.takeWhile fun c => !iq q c) } r2 else clo true { t with pub := t.pub ++ wh (r.takeWhile fun c => !iq q c), q := true } (c :: r2)) := by
  induction r generalizing t with
  | nil => simp [dR, clo, wh]
  | cons c r ih =>
    by_cases h : c = q
    · subst h
      rw [dR_go 5 c t c r 0 11 c t (by simp [dS]), List.drop_zero, List.dropWhile_cons_of_neg (by simp [iq_q]), List.takeWhile_cons_of_neg (by simp [iq_q])]
      dsimp only
      rw [if_pos rfl]
      simp [wh]
    · by_cases h2 : c = 62
      · subst h2
        rw [dR_stop 5 q t 62 r { t with q := true } (by simp [dS, h]), List.dropWhile_cons_of_neg (by simp [iq_g]), List.takeWhile_cons_of_neg (by simp [iq_g])]
        dsimp only
        rw [if_neg h]
        simp [clo, wh]
      · rw [dR_go 5 q t c r 0 5 q { t with pub := t.pub ++ whB c } (by simp [dS, h, h2]), List.drop_zero, ih, List.dropWhile_cons_of_pos (by simp [iq_no q c h h2]), List.takeWhile_cons_of_pos (by simp [iq_no q c h h2])]
        dsimp only
        rw [wh_cons]
        simp only [List.append_assoc]
theorem isQ_62 : isQ 62 = false := by decide
theorem isQ_ne (q : UInt8) (h : isQ q = true) : q ≠ 62 := by rintro rfl; rw [isQ_62] at h; cases h
/-- A system identifier, if a quote stands there. -/
theorem dR_8q (q : UInt8) (t : Tk) (r : List UInt8) (hq : isQ q = true) (ht : t.sys = []) : dR 0 8 q { t with hs := true } r = dtS t (q :: r) := by
  rw [dR_8 q (isQ_ne q hq), dtS, if_pos hq]
  dsimp only
  rw [ht, List.nil_append]
  split
  · rfl
  · split
    · exact dR_9 _ _ _
    · rfl
theorem dR_7 (q : UInt8) (t : Tk) (r : List UInt8) (ht : t.sys = []) : dR 0 7 q t r = dtS t (db r) := by
  induction r with
  | nil => rfl
  | cons c r ih =>
    by_cases hb : bsp c = true
    · rw [db_pos _ _ hb, dR_go 7 q t c r 0 7 q t (by simp [dS, hb])]; exact ih
    · rw [db_neg _ _ hb]
      have hb' : bsp c = false := by simpa using hb
      by_cases hq : isQ c = true
      · rw [dR_go 7 q t c r 0 8 c { t with hs := true } (by simp [dS, hb', hq]), List.drop_zero]
        exact dR_8q c t r hq ht
      · have hq' : isQ c = false := by simpa using hq
        rw [dtS, if_neg hq]
        by_cases h : c = 62
        · subst h
          rw [dR_stop 7 q t 62 r { t with q := true } (by simp [dS, bsp62, isQ_62]), rst_hit]
        · rw [dR_go 7 q t c r 0 10 q { t with q := true } (by simp [dS, hb', hq', h]), List.drop_zero, dR_10]
          exact (rst_miss _ _ _ h).symm
theorem dR_11 (q : UInt8) (t : Tk) (r : List UInt8) (ht : t.sys = []) : dR 0 11 q t r = if eb (db r) then clo (db r).isEmpty t (db r) else dtS t (db r) := by
  induction r with
  | nil => rfl
  | cons c r ih =>
    by_cases hb : bsp c = true
    · rw [db_pos _ _ hb, dR_go 11 q t c r 0 11 q t (by simp [dS, hb])]; exact ih
    · rw [db_neg _ _ hb]
      have hb' : bsp c = false := by simpa using hb
      by_cases h : c = 62
      · subst h
        rw [dR_stop 11 q t 62 r t (by simp [dS, bsp62])]
        rfl
      · rw [if_neg (by simp [eb, h])]
        by_cases hq : isQ c = true
        · rw [dR_go 11 q t c r 0 8 c { t with hs := true } (by simp [dS, hb', hq, h]), List.drop_zero]
          exact dR_8q c t r hq ht
        · have hq' : isQ c = false := by simpa using hq
          rw [dtS, if_neg hq]
          rw [dR_go 11 q t c r 0 10 q { t with q := true } (by simp [dS, hb', hq', h]), List.drop_zero, dR_10]
          exact (rst_miss _ _ _ h).symm
theorem dR_4 (q : UInt8) (t : Tk) (r : List UInt8) (hp : t.pub = []) (ht : t.sys = []) : dR 0 4 q t r = dtP t (db r) := by
  induction r with
  | nil => rfl
  | cons c r ih =>
    by_cases hb : bsp c = true
    · rw [db_pos _ _ hb, dR_go 4 q t c r 0 4 q t (by simp [dS, hb])]; exact ih
    · rw [db_neg _ _ hb]
      have hb' : bsp c = false := by simpa using hb
      by_cases hq : isQ c = true
      · rw [dR_go 4 q t c r 0 5 c { t with hp := true } (by simp [dS, hb', hq]), List.drop_zero, dR_5 c (isQ_ne c hq), dtP, if_pos hq]
        dsimp only
        rw [hp, List.nil_append]
        split
        · rfl
        · split
          · exact dR_11 _ _ _ ht
          · rfl
      · have hq' : isQ c = false := by simpa using hq
        rw [dtP, if_neg hq]
        by_cases h : c = 62
        · subst h
          rw [dR_stop 4 q t 62 r { t with q := true } (by simp [dS, bsp62, isQ_62]), rst_hit]
        · rw [dR_go 4 q t c r 0 10 q { t with q := true } (by simp [dS, hb', hq', h]), List.drop_zero, dR_10]
          exact (rst_miss _ _ _ h).symm
theorem dR_3 (q : UInt8) (t : Tk) (r : List UInt8) (hp : t.pub = []) (ht : t.sys = []) : dR 0 3 q t r = dtA t (db r) := by
  induction r with
  | nil => rfl
  | cons c r ih =>
    by_cases hb : bsp c = true
    · rw [db_pos _ _ hb, dR_go 3 q t c r 0 3 q t (by simp [dS, hb])]; exact ih
    · rw [db_neg _ _ hb]
      have hb' : bsp c = false := by simpa using hb
      unfold dtA
      by_cases h : c = 62
      · subst h
        rw [dR_stop 3 q t 62 r t (by simp [dS, bsp62])]
        rfl
      · rw [if_neg (by simp [eb, h])]
        by_cases h1 : wd wPub (c :: r) = true
        · rw [dR_go 3 q t c r 5 4 q t (by simp [dS, hb', h, h1]), if_pos h1]
          exact dR_4 _ _ _ hp ht
        · rw [if_neg h1]
          have h1' : wd wPub (c :: r) = false := by simpa using h1
          by_cases h2 : wd wSys (c :: r) = true
          · rw [dR_go 3 q t c r 5 7 q t (by simp [dS, hb', h, h1', h2]), if_pos h2]
            exact dR_7 _ _ _ ht
          · rw [if_neg h2]
            have h2' : wd wSys (c :: r) = false := by simpa using h2
            rw [dR_go 3 q t c r 0 10 q { t with q := true } (by simp [dS, hb', h, h1', h2']), List.drop_zero, dR_10]
            exact (rst_miss _ _ _ h).symm
theorem lw_cons (c : UInt8) (r : List UInt8) : lw (c :: r) = lwB c :: lw r := rfl
theorem dR_2 (q : UInt8) (t : Tk) (r : List UInt8) (hp : t.pub = []) (ht : t.sys = []) : dR 0 2 q t r = dtA { t with name := t.name ++ wh (lw (r.takeWhile inm)) } (db (r.dropWhile inm)) := by
  induction r generalizing t with
  | nil => simp [dR, dtA, db, eb, clo, lw, wh]
  | cons c r ih =>
    by_cases hb : bsp c = true
    · rw [dR_go 2 q t c r 0 3 q t (by simp [dS, hb]), List.drop_zero, dR_3 _ _ _ hp ht, List.takeWhile_cons_of_neg (by simp [inm, hb]), List.dropWhile_cons_of_neg (by simp [inm, hb]), db_pos _ _ hb]
      simp [lw, wh]
    · have hb' : bsp c = false := by simpa using hb
      by_cases h : c = 62
      · subst h
        rw [dR_stop 2 q t 62 r t (by simp [dS, bsp62]), List.takeWhile_cons_of_neg (by simp [inm]), List.dropWhile_cons_of_neg (by simp [inm]), db_neg _ _ (by decide)]
        simp [dtA, eb, clo, lw, wh]
      · have hi : inm c = true := by simp [inm, h, hb']
        rw [dR_go 2 q t c r 0 2 q { t with name := t.name ++ whB (lwB c) } (by simp [dS, hb', h]), List.drop_zero, List.takeWhile_cons_of_pos hi, List.dropWhile_cons_of_pos hi]
        rw [ih { t with name := t.name ++ whB (lwB c) } hp ht, lw_cons, wh_cons]
        simp only [List.append_assoc]
/-- THE LAW OF DOCTYPES. -/
theorem dt_dR (q : UInt8) (r : List UInt8) : dR 0 1 q { kind := 5 } r = dt r := by
  induction r with
  | nil => rfl
  | cons c r ih =>
    unfold dt
    by_cases hb : bsp c = true
    · rw [db_pos _ _ hb, dR_go 1 q _ c r 0 1 q { kind := 5 } (by simp [dS, hb])]; exact ih
    · rw [db_neg _ _ hb]
      have hb' : bsp c = false := by simpa using hb
      by_cases h : c = 62
      · subst h
        rw [dR_stop 1 q _ 62 r { kind := 5, q := true } (by simp [dS, bsp62])]
        rfl
      · have hi : inm c = true := by simp [inm, h, hb']
        dsimp only
        rw [if_neg (by simp [eb, h]), dR_go 1 q _ c r 0 2 q { kind := 5, name := whB (lwB c) } (by simp [dS, hb', h]), List.drop_zero, dR_2 q _ r rfl rfl, List.takeWhile_cons_of_pos hi, List.dropWhile_cons_of_pos hi, lw_cons, wh_cons]
end Go.Proofs.YtileclmmobkcaaaDoor
