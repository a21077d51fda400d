/- What package desc and its reference compute, in plain terms. -/
import Derived.Test.YtippimonpdeioaaDesc
import Derived.Test.YtippimonpdeioaaGrow
namespace Go.Proofs.Ytippimonpdeioaa
set_option linter.all false
open Go.RowKit Go.Sort

def hs (h p : Int) : Bool := bits .and .i64 h p != 0

def bt (n b : Int) : Bool := (n.tdiv b).tmod 2 == 1

def askedM (h : Int) : Int := (if hs h 2 then 1 else 0) + (if hs h 16 then 2 else 0) + (if hs h 32 then 4 else 0)

def halfR (v : Val) (said : Bool) : Bool := if said then v.k == 0 || v.k == 7 else v.eq .zero

def dataR (h : Int) : Bool := bt h 1 || bt h 2

def accR (h : Int) : Bool := bt h 4 || bt h 8

def attrR (d : Dsc) (p b : Int) (was : Bool) : Int := if (if bt d.h p then bt d.a b else was) then b else 0

def pickR (said : Bool) (v : Val) (o : Bool) (was : Val) : Val := if said then v else if o then was else .zero

def rdatM (v : Val) (a : Int) : Dsc := ⟨51, if a.tmod 8 < 0 then a.tmod 8 + 8 else a.tmod 8, v, .zero, .zero⟩

def rofM (p : Prp) : Dsc := if bt p.a 8 then ⟨60, p.a - 8, .zero, p.g, p.t⟩ else ⟨51, p.a, p.v, .zero, .zero⟩

def dataM (v : Val) (a : Int) : Dsc := ⟨51, bits .and .i64 a 7, v, .zero, .zero⟩

def ofM (p : Prp) : Dsc := if hs p.a 8 then ⟨60, bits .and .i64 p.a 6, .zero, p.g, p.t⟩ else dataM p.v p.a

def barsM (p : Prp) (d : Dsc) : Bool :=
  if (hs d.h 32 && bits .and .i64 d.a 4 != 0) || (hs d.h 16 && bits .and .i64 (bits .xor .i64 d.a p.a) 2 != 0) then true
  else if bits .and .i64 p.a 8 != 0 then hs d.h 3 || (hs d.h 4 && !d.g.eq p.g) || (hs d.h 8 && !d.t.eq p.t)
  else if hs d.h 12 then true
  else bits .and .i64 p.a 1 == 0 && ((hs d.h 2 && bits .and .i64 d.a 1 != 0) || (hs d.h 1 && !d.v.eq p.v))

def chIs (p : Prp) (d : Dsc) : Bool := hs d.h 12 || (bits .and .i64 p.a 8 != 0 && !hs d.h 3)

def chA0 (p : Prp) (d : Dsc) : Int := if !chIs p d && !(bits .and .i64 p.a 8 != 0) then bits .and .i64 p.a 1 else 0

def chA1 (p : Prp) (d : Dsc) : Int := bits .or .i64 (chA0 p d) (bits .and .i64 p.a 6)

def chA2 (p : Prp) (d : Dsc) : Int := if chIs p d then bits .or .i64 (chA1 p d) 8 else chA1 p d

def chA3 (p : Prp) (d : Dsc) : Int := bits .or .i64 (bits .andNot .i64 (chA2 p d) (askedM d.h)) (bits .and .i64 d.a (askedM d.h))

def changeM (p : Prp) (k : Val) (d : Dsc) : Prp :=
  ⟨k, chA3 p d, if hs d.h 1 then d.v else if !chIs p d && !(bits .and .i64 p.a 8 != 0) then p.v else .zero,
   if hs d.h 4 then d.g else if chIs p d && bits .and .i64 p.a 8 != 0 then p.g else .zero,
   if hs d.h 8 then d.t else if chIs p d && bits .and .i64 p.a 8 != 0 then p.t else .zero⟩

def fullA (d : Dsc) : Int := (if bt d.h 16 && bt d.a 2 then 2 else 0) + (if bt d.h 32 && bt d.a 4 then 4 else 0)

def fullR (d : Dsc) (k : Val) : Prp :=
  if accR d.h then ⟨k, fullA d + 8, .zero, d.g, d.t⟩ else ⟨k, fullA d + (if bt d.h 2 && bt d.a 1 then 1 else 0), d.v, .zero, .zero⟩

def barsR (p : Prp) (d : Dsc) : Bool :=
  if bt d.h 32 && bt d.a 4 then true
  else if bt d.h 16 && (!bt d.a 2 == bt p.a 2) then true
  else if bt p.a 8 then dataR d.h || (bt d.h 4 && !d.g.eq p.g) || (bt d.h 8 && !d.t.eq p.t)
  else if accR d.h then true
  else if bt p.a 1 then false
  else (bt d.h 2 && bt d.a 1) || (bt d.h 1 && !d.v.eq p.v)

def rr1 (d : Dsc) : Bool := decide (d.h < 0) || decide (63 < d.h) || decide (d.a < 0) || decide (7 < d.a) || (dataR d.h && accR d.h)

def rr2 (d : Dsc) : Bool := (bt d.a 1 && !bt d.h 2) || (bt d.a 2 && !bt d.h 16) || (bt d.a 4 && !bt d.h 32)

def rr3 (d : Dsc) : Bool := (!bt d.h 1 && !d.v.eq .zero) || decide (d.v.k < 0) || decide (7 < d.v.k)

def rightR (d : Dsc) : Bool := !rr1 d && !rr2 d && !rr3 d && halfR d.g (bt d.h 4) && halfR d.t (bt d.h 8)

def halfM (v : Val) : Bool := v.k == 0 || v.k == 7

def pr1 (d : Dsc) : Bool := bits .andNot .i64 d.h 63 != 0 || (hs d.h 3 && hs d.h 12) || bits .andNot .i64 d.a (askedM d.h) != 0

def pr2 (d : Dsc) : Bool := decide (d.v.k < 0) || decide (7 < d.v.k) || !halfM d.g || !halfM d.t

def pr3 (d : Dsc) : Bool := (hs d.h 1 || d.v.eq .zero) && (hs d.h 4 || d.g.eq .zero) && (hs d.h 8 || d.t.eq .zero)

def rightM (d : Dsc) : Bool := !pr1 d && !pr2 d && pr3 d

def rightP (p : Prp) : Bool :=
  if p.a < 0 || 15 < p.a then false
  else if bt p.a 8 then !bt p.a 1 && p.v.eq .zero && halfR p.g true && halfR p.t true
  else p.g.eq .zero && p.t.eq .zero && decide (0 ≤ p.v.k) && decide (p.v.k ≤ 7)

def outA (p : Prp) (d : Dsc) : Int := attrR d 16 2 (bt p.a 2) + attrR d 32 4 (bt p.a 4)

def isAcc (p : Prp) (d : Dsc) : Bool := accR d.h || (bt p.a 8 && !dataR d.h)

def applyT (p : Prp) (k : Val) (d : Dsc) : Prp :=
  if isAcc p d then ⟨k, outA p d + 8, .zero, pickR (bt d.h 4) d.g (bt p.a 8) p.g, pickR (bt d.h 8) d.t (bt p.a 8) p.t⟩
  else ⟨k, outA p d + attrR d 2 1 (!bt p.a 8 && bt p.a 1), pickR (bt d.h 1) d.v (!bt p.a 8) p.v, .zero, .zero⟩

abbrev Prp.zero : Prp := ⟨.zero, 0, .zero, .zero, .zero⟩

def applyR (p : Prp) (has ext : Bool) (k : Val) (d : Dsc) : Prp × Bool :=
  if has then (if !bt p.a 4 && barsR p d then (.zero, false) else (applyT p k d, true)) else (if ext then (fullR d k, true) else (.zero, false))

abbrev Prp.zero' : Prp := ⟨.zero, 0, .zero, .zero, .zero⟩

def applyM (p : Prp) (has ext : Bool) (k : Val) (d : Dsc) : Prp × Bool :=
  if has then (if bits .and .i64 p.a 4 == 0 && barsM p d then (.zero', false) else (changeM p k d, true)) else (if ext then (changeM .zero' k d, true) else (.zero', false))

end Go.Proofs.Ytippimonpdeioaa
