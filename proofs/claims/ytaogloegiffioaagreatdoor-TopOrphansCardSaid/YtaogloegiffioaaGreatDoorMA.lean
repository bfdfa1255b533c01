import Derived.Test.YtaogloegiffioaaGreatDoorProg
import Derived.WalkKit
import Derived.WalkSpells
import Derived.Deep.AppendSrc
import Derived.Laws.CopyRow
set_option linter.all false
namespace Go.Proofs.YtaogloegiffioaaGreatDoor
inductive D16 where
  | d0 | d1 | d2 | d3 | d4 | d5 | d6 | d7 | d8 | d9 | da | db | dc | dd | de | df
  deriving DecidableEq, Inhabited
structure Bid where
  z : D16
  a : D16
  b : D16
  c : D16
  d : D16
  deriving DecidableEq, Inhabited
mutual
inductive AV where
  | i64 (n : Nat)
  | u64 (n : Nat)
  | u8 (n : Nat)
  | u32 (n : Nat)
  | i32 (n : Nat)
  | b (v : Bool)
  | s (len n : Nat)
  | lit (v : Value)
  | p (b : Bid) (o : Nat)
  | sl (b : Bid) (o l c w : Nat) (kn : Bool)
  | fn (f : FuncId) (caps : AVs)
  | mp (b : Bid)
  | iface (t : TypeId) (v : AV)
  | agg (n : Nat) (r : Row)
  | tup (l : AVs)
inductive AVs where
  | nil
  | cons (v : AV) (l : AVs)
inductive Row where
  | e
  | l (a0 a1 a2 a3 a4 a5 a6 a7 : AV)
  | n (p : Nat) (a0 a1 a2 a3 a4 a5 a6 a7 : Row)
end
instance : Inhabited AV := ⟨.i64 0⟩
inductive PK where
  | bool | u8 | i64 | u64 | i32 | u32
  deriving DecidableEq, Inhabited
inductive Ents where
  | nil
  | cons (k : AV) (v : AV) (born : Nat) (r : Ents)
inductive Blk where
  | none
  | cells (t : TypeId) (n : Nat) (r : Row)
  | pk (k : PK) (t : TypeId) (n m : Nat)
  | map (es : Ents) (clock : Nat)
  | siter (len n pos : Nat)
  | dead
  | dev (n : Nat) (now lasts : Row) (calls : Nat)
structure H1 where
  mk ::
  c0 : Blk
  c1 : Blk
  c2 : Blk
  c3 : Blk
  c4 : Blk
  c5 : Blk
  c6 : Blk
  c7 : Blk
  c8 : Blk
  c9 : Blk
  ca : Blk
  cb : Blk
  cc : Blk
  cd : Blk
  ce : Blk
  cf : Blk
structure H2 where
  mk ::
  c0 : H1
  c1 : H1
  c2 : H1
  c3 : H1
  c4 : H1
  c5 : H1
  c6 : H1
  c7 : H1
  c8 : H1
  c9 : H1
  ca : H1
  cb : H1
  cc : H1
  cd : H1
  ce : H1
  cf : H1
structure H3 where
  mk ::
  c0 : H2
  c1 : H2
  c2 : H2
  c3 : H2
  c4 : H2
  c5 : H2
  c6 : H2
  c7 : H2
  c8 : H2
  c9 : H2
  ca : H2
  cb : H2
  cc : H2
  cd : H2
  ce : H2
  cf : H2
structure H4 where
  mk ::
  c0 : H3
  c1 : H3
  c2 : H3
  c3 : H3
  c4 : H3
  c5 : H3
  c6 : H3
  c7 : H3
  c8 : H3
  c9 : H3
  ca : H3
  cb : H3
  cc : H3
  cd : H3
  ce : H3
  cf : H3
structure H5 where
  mk ::
  c0 : H4
  c1 : H4
  c2 : H4
  c3 : H4
  c4 : H4
  c5 : H4
  c6 : H4
  c7 : H4
  c8 : H4
  c9 : H4
  ca : H4
  cb : H4
  cc : H4
  cd : H4
  ce : H4
  cf : H4
structure St where
  h : H5
  nx : Bid
structure T1 where
  mk ::
  c0 : AV
  c1 : AV
  c2 : AV
  c3 : AV
  c4 : AV
  c5 : AV
  c6 : AV
  c7 : AV
  c8 : AV
  c9 : AV
  ca : AV
  cb : AV
  cc : AV
  cd : AV
  ce : AV
  cf : AV
structure T2 where
  mk ::
  c0 : T1
  c1 : T1
  c2 : T1
  c3 : T1
  c4 : T1
  c5 : T1
  c6 : T1
  c7 : T1
  c8 : T1
  c9 : T1
  ca : T1
  cb : T1
  cc : T1
  cd : T1
  ce : T1
  cf : T1
abbrev Tm := T2
inductive OA where
  | no
  | ok (v : AV)
inductive OS where
  | no
  | ok (σ : St)
inductive RA where
  | no
  | ok (v : AV) (σ : St)
inductive RC where
  | no
  | normal (T : Tm) (σ : St)
  | exit (id : Nat) (T : Tm) (σ : St)
  | ret (T : Tm) (σ : St)
inductive OR where
  | no
  | ok (r : Row)
noncomputable section
def undefA : AV := .lit undef
def H1.get (d : D16) (t : H1) : Blk := D16.rec (motive := fun _ => H1 → Blk) (fun t => t.c0) (fun t => t.c1) (fun t => t.c2) (fun t => t.c3) (fun t => t.c4) (fun t => t.c5) (fun t => t.c6) (fun t => t.c7) (fun t => t.c8) (fun t => t.c9) (fun t => t.ca) (fun t => t.cb) (fun t => t.cc) (fun t => t.cd) (fun t => t.ce) (fun t => t.cf) d t
def H1.set (d : D16) (t : H1) (v : Blk) : H1 := D16.rec (motive := fun _ => H1 → Blk → H1) (fun t v => H1.rec (motive := fun _ => H1) (fun a0 a1 a2 a3 a4 a5 a6 a7 a8 a9 aa ab ac ad ae af => .mk v a1 a2 a3 a4 a5 a6 a7 a8 a9 aa ab ac ad ae af) t) (fun t v => H1.rec (motive := fun _ => H1) (fun a0 a1 a2 a3 a4 a5 a6 a7 a8 a9 aa ab ac ad ae af => .mk a0 v a2 a3 a4 a5 a6 a7 a8 a9 aa ab ac ad ae af) t) (fun t v => H1.rec (motive := fun _ => H1) (fun a0 a1 a2 a3 a4 a5 a6 a7 a8 a9 aa ab ac ad ae af => .mk a0 a1 v a3 a4 a5 a6 a7 a8 a9 aa ab ac ad ae af) t) (fun t v => H1.rec (motive := fun _ => H1) (fun a0 a1 a2 a3 a4 a5 a6 a7 a8 a9 aa ab ac ad ae af => .mk a0 a1 a2 v a4 a5 a6 a7 a8 a9 aa ab ac ad ae af) t) (fun t v => H1.rec (motive := fun _ => H1) (fun a0 a1 a2 a3 a4 a5 a6 a7 a8 a9 aa ab ac ad ae af => .mk a0 a1 a2 a3 v a5 a6 a7 a8 a9 aa ab ac ad ae af) t) (fun t v => H1.rec (motive := fun _ => H1) (fun a0 a1 a2 a3 a4 a5 a6 a7 a8 a9 aa ab ac ad ae af => .mk a0 a1 a2 a3 a4 v a6 a7 a8 a9 aa ab ac ad ae af) t) (fun t v => H1.rec (motive := fun _ => H1) (fun a0 a1 a2 a3 a4 a5 a6 a7 a8 a9 aa ab ac ad ae af => .mk a0 a1 a2 a3 a4 a5 v a7 a8 a9 aa ab ac ad ae af) t) (fun t v => H1.rec (motive := fun _ => H1) (fun a0 a1 a2 a3 a4 a5 a6 a7 a8 a9 aa ab ac ad ae af => .mk a0 a1 a2 a3 a4 a5 a6 v a8 a9 aa ab ac ad ae af) t) (fun t v => H1.rec (motive := fun _ => H1) (fun a0 a1 a2 a3 a4 a5 a6 a7 a8 a9 aa ab ac ad ae af => .mk a0 a1 a2 a3 a4 a5 a6 a7 v a9 aa ab ac ad ae af) t) (fun t v => H1.rec (motive := fun _ => H1) (fun a0 a1 a2 a3 a4 a5 a6 a7 a8 a9 aa ab ac ad ae af => .mk a0 a1 a2 a3 a4 a5 a6 a7 a8 v aa ab ac ad ae af) t) (fun t v => H1.rec (motive := fun _ => H1) (fun a0 a1 a2 a3 a4 a5 a6 a7 a8 a9 aa ab ac ad ae af => .mk a0 a1 a2 a3 a4 a5 a6 a7 a8 a9 v ab ac ad ae af) t) (fun t v => H1.rec (motive := fun _ => H1) (fun a0 a1 a2 a3 a4 a5 a6 a7 a8 a9 aa ab ac ad ae af => .mk a0 a1 a2 a3 a4 a5 a6 a7 a8 a9 aa v ac ad ae af) t) (fun t v => H1.rec (motive := fun _ => H1) (fun a0 a1 a2 a3 a4 a5 a6 a7 a8 a9 aa ab ac ad ae af => .mk a0 a1 a2 a3 a4 a5 a6 a7 a8 a9 aa ab v ad ae af) t) (fun t v => H1.rec (motive := fun _ => H1) (fun a0 a1 a2 a3 a4 a5 a6 a7 a8 a9 aa ab ac ad ae af => .mk a0 a1 a2 a3 a4 a5 a6 a7 a8 a9 aa ab ac v ae af) t) (fun t v => H1.rec (motive := fun _ => H1) (fun a0 a1 a2 a3 a4 a5 a6 a7 a8 a9 aa ab ac ad ae af => .mk a0 a1 a2 a3 a4 a5 a6 a7 a8 a9 aa ab ac ad v af) t) (fun t v => H1.rec (motive := fun _ => H1) (fun a0 a1 a2 a3 a4 a5 a6 a7 a8 a9 aa ab ac ad ae af => .mk a0 a1 a2 a3 a4 a5 a6 a7 a8 a9 aa ab ac ad ae v) t) d t v
def H2.get (d : D16) (t : H2) : H1 := D16.rec (motive := fun _ => H2 → H1) (fun t => t.c0) (fun t => t.c1) (fun t => t.c2) (fun t => t.c3) (fun t => t.c4) (fun t => t.c5) (fun t => t.c6) (fun t => t.c7) (fun t => t.c8) (fun t => t.c9) (fun t => t.ca) (fun t => t.cb) (fun t => t.cc) (fun t => t.cd) (fun t => t.ce) (fun t => t.cf) d t
def H2.set (d : D16) (t : H2) (v : H1) : H2 := D16.rec (motive := fun _ => H2 → H1 → H2) (fun t v => H2.rec (motive := fun _ => H2) (fun a0 a1 a2 a3 a4 a5 a6 a7 a8 a9 aa ab ac ad ae af => .mk v a1 a2 a3 a4 a5 a6 a7 a8 a9 aa ab ac ad ae af) t) (fun t v => H2.rec (motive := fun _ => H2) (fun a0 a1 a2 a3 a4 a5 a6 a7 a8 a9 aa ab ac ad ae af => .mk a0 v a2 a3 a4 a5 a6 a7 a8 a9 aa ab ac ad ae af) t) (fun t v => H2.rec (motive := fun _ => H2) (fun a0 a1 a2 a3 a4 a5 a6 a7 a8 a9 aa ab ac ad ae af => .mk a0 a1 v a3 a4 a5 a6 a7 a8 a9 aa ab ac ad ae af) t) (fun t v => H2.rec (motive := fun _ => H2) (fun a0 a1 a2 a3 a4 a5 a6 a7 a8 a9 aa ab ac ad ae af => .mk a0 a1 a2 v a4 a5 a6 a7 a8 a9 aa ab ac ad ae af) t) (fun t v => H2.rec (motive := fun _ => H2) (fun a0 a1 a2 a3 a4 a5 a6 a7 a8 a9 aa ab ac ad ae af => .mk a0 a1 a2 a3 v a5 a6 a7 a8 a9 aa ab ac ad ae af) t) (fun t v => H2.rec (motive := fun _ => H2) (fun a0 a1 a2 a3 a4 a5 a6 a7 a8 a9 aa ab ac ad ae af => .mk a0 a1 a2 a3 a4 v a6 a7 a8 a9 aa ab ac ad ae af) t) (fun t v => H2.rec (motive := fun _ => H2) (fun a0 a1 a2 a3 a4 a5 a6 a7 a8 a9 aa ab ac ad ae af => .mk a0 a1 a2 a3 a4 a5 v a7 a8 a9 aa ab ac ad ae af) t) (fun t v => H2.rec (motive := fun _ => H2) (fun a0 a1 a2 a3 a4 a5 a6 a7 a8 a9 aa ab ac ad ae af => .mk a0 a1 a2 a3 a4 a5 a6 v a8 a9 aa ab ac ad ae af) t) (fun t v => H2.rec (motive := fun _ => H2) (fun a0 a1 a2 a3 a4 a5 a6 a7 a8 a9 aa ab ac ad ae af => .mk a0 a1 a2 a3 a4 a5 a6 a7 v a9 aa ab ac ad ae af) t) (fun t v => H2.rec (motive := fun _ => H2) (fun a0 a1 a2 a3 a4 a5 a6 a7 a8 a9 aa ab ac ad ae af => .mk a0 a1 a2 a3 a4 a5 a6 a7 a8 v aa ab ac ad ae af) t) (fun t v => H2.rec (motive := fun _ => H2) (fun a0 a1 a2 a3 a4 a5 a6 a7 a8 a9 aa ab ac ad ae af => .mk a0 a1 a2 a3 a4 a5 a6 a7 a8 a9 v ab ac ad ae af) t) (fun t v => H2.rec (motive := fun _ => H2) (fun a0 a1 a2 a3 a4 a5 a6 a7 a8 a9 aa ab ac ad ae af => .mk a0 a1 a2 a3 a4 a5 a6 a7 a8 a9 aa v ac ad ae af) t) (fun t v => H2.rec (motive := fun _ => H2) (fun a0 a1 a2 a3 a4 a5 a6 a7 a8 a9 aa ab ac ad ae af => .mk a0 a1 a2 a3 a4 a5 a6 a7 a8 a9 aa ab v ad ae af) t) (fun t v => H2.rec (motive := fun _ => H2) (fun a0 a1 a2 a3 a4 a5 a6 a7 a8 a9 aa ab ac ad ae af => .mk a0 a1 a2 a3 a4 a5 a6 a7 a8 a9 aa ab ac v ae af) t) (fun t v => H2.rec (motive := fun _ => H2) (fun a0 a1 a2 a3 a4 a5 a6 a7 a8 a9 aa ab ac ad ae af => .mk a0 a1 a2 a3 a4 a5 a6 a7 a8 a9 aa ab ac ad v af) t) (fun t v => H2.rec (motive := fun _ => H2) (fun a0 a1 a2 a3 a4 a5 a6 a7 a8 a9 aa ab ac ad ae af => .mk a0 a1 a2 a3 a4 a5 a6 a7 a8 a9 aa ab ac ad ae v) t) d t v
def H3.get (d : D16) (t : H3) : H2 := D16.rec (motive := fun _ => H3 → H2) (fun t => t.c0) (fun t => t.c1) (fun t => t.c2) (fun t => t.c3) (fun t => t.c4) (fun t => t.c5) (fun t => t.c6) (fun t => t.c7) (fun t => t.c8) (fun t => t.c9) (fun t => t.ca) (fun t => t.cb) (fun t => t.cc) (fun t => t.cd) (fun t => t.ce) (fun t => t.cf) d t
def H3.set (d : D16) (t : H3) (v : H2) : H3 := D16.rec (motive := fun _ => H3 → H2 → H3) (fun t v => H3.rec (motive := fun _ => H3) (fun a0 a1 a2 a3 a4 a5 a6 a7 a8 a9 aa ab ac ad ae af => .mk v a1 a2 a3 a4 a5 a6 a7 a8 a9 aa ab ac ad ae af) t) (fun t v => H3.rec (motive := fun _ => H3) (fun a0 a1 a2 a3 a4 a5 a6 a7 a8 a9 aa ab ac ad ae af => .mk a0 v a2 a3 a4 a5 a6 a7 a8 a9 aa ab ac ad ae af) t) (fun t v => H3.rec (motive := fun _ => H3) (fun a0 a1 a2 a3 a4 a5 a6 a7 a8 a9 aa ab ac ad ae af => .mk a0 a1 v a3 a4 a5 a6 a7 a8 a9 aa ab ac ad ae af) t) (fun t v => H3.rec (motive := fun _ => H3) (fun a0 a1 a2 a3 a4 a5 a6 a7 a8 a9 aa ab ac ad ae af => .mk a0 a1 a2 v a4 a5 a6 a7 a8 a9 aa ab ac ad ae af) t) (fun t v => H3.rec (motive := fun _ => H3) (fun a0 a1 a2 a3 a4 a5 a6 a7 a8 a9 aa ab ac ad ae af => .mk a0 a1 a2 a3 v a5 a6 a7 a8 a9 aa ab ac ad ae af) t) (fun t v => H3.rec (motive := fun _ => H3) (fun a0 a1 a2 a3 a4 a5 a6 a7 a8 a9 aa ab ac ad ae af => .mk a0 a1 a2 a3 a4 v a6 a7 a8 a9 aa ab ac ad ae af) t) (fun t v => H3.rec (motive := fun _ => H3) (fun a0 a1 a2 a3 a4 a5 a6 a7 a8 a9 aa ab ac ad ae af => .mk a0 a1 a2 a3 a4 a5 v a7 a8 a9 aa ab ac ad ae af) t) (fun t v => H3.rec (motive := fun _ => H3) (fun a0 a1 a2 a3 a4 a5 a6 a7 a8 a9 aa ab ac ad ae af => .mk a0 a1 a2 a3 a4 a5 a6 v a8 a9 aa ab ac ad ae af) t) (fun t v => H3.rec (motive := fun _ => H3) (fun a0 a1 a2 a3 a4 a5 a6 a7 a8 a9 aa ab ac ad ae af => .mk a0 a1 a2 a3 a4 a5 a6 a7 v a9 aa ab ac ad ae af) t) (fun t v => H3.rec (motive := fun _ => H3) (fun a0 a1 a2 a3 a4 a5 a6 a7 a8 a9 aa ab ac ad ae af => .mk a0 a1 a2 a3 a4 a5 a6 a7 a8 v aa ab ac ad ae af) t) (fun t v => H3.rec (motive := fun _ => H3) (fun a0 a1 a2 a3 a4 a5 a6 a7 a8 a9 aa ab ac ad ae af => .mk a0 a1 a2 a3 a4 a5 a6 a7 a8 a9 v ab ac ad ae af) t) (fun t v => H3.rec (motive := fun _ => H3) (fun a0 a1 a2 a3 a4 a5 a6 a7 a8 a9 aa ab ac ad ae af => .mk a0 a1 a2 a3 a4 a5 a6 a7 a8 a9 aa v ac ad ae af) t) (fun t v => H3.rec (motive := fun _ => H3) (fun a0 a1 a2 a3 a4 a5 a6 a7 a8 a9 aa ab ac ad ae af => .mk a0 a1 a2 a3 a4 a5 a6 a7 a8 a9 aa ab v ad ae af) t) (fun t v => H3.rec (motive := fun _ => H3) (fun a0 a1 a2 a3 a4 a5 a6 a7 a8 a9 aa ab ac ad ae af => .mk a0 a1 a2 a3 a4 a5 a6 a7 a8 a9 aa ab ac v ae af) t) (fun t v => H3.rec (motive := fun _ => H3) (fun a0 a1 a2 a3 a4 a5 a6 a7 a8 a9 aa ab ac ad ae af => .mk a0 a1 a2 a3 a4 a5 a6 a7 a8 a9 aa ab ac ad v af) t) (fun t v => H3.rec (motive := fun _ => H3) (fun a0 a1 a2 a3 a4 a5 a6 a7 a8 a9 aa ab ac ad ae af => .mk a0 a1 a2 a3 a4 a5 a6 a7 a8 a9 aa ab ac ad ae v) t) d t v
def H4.get (d : D16) (t : H4) : H3 := D16.rec (motive := fun _ => H4 → H3) (fun t => t.c0) (fun t => t.c1) (fun t => t.c2) (fun t => t.c3) (fun t => t.c4) (fun t => t.c5) (fun t => t.c6) (fun t => t.c7) (fun t => t.c8) (fun t => t.c9) (fun t => t.ca) (fun t => t.cb) (fun t => t.cc) (fun t => t.cd) (fun t => t.ce) (fun t => t.cf) d t
def H4.set (d : D16) (t : H4) (v : H3) : H4 := D16.rec (motive := fun _ => H4 → H3 → H4) (fun t v => H4.rec (motive := fun _ => H4) (fun a0 a1 a2 a3 a4 a5 a6 a7 a8 a9 aa ab ac ad ae af => .mk v a1 a2 a3 a4 a5 a6 a7 a8 a9 aa ab ac ad ae af) t) (fun t v => H4.rec (motive := fun _ => H4) (fun a0 a1 a2 a3 a4 a5 a6 a7 a8 a9 aa ab ac ad ae af => .mk a0 v a2 a3 a4 a5 a6 a7 a8 a9 aa ab ac ad ae af) t) (fun t v => H4.rec (motive := fun _ => H4) (fun a0 a1 a2 a3 a4 a5 a6 a7 a8 a9 aa ab ac ad ae af => .mk a0 a1 v a3 a4 a5 a6 a7 a8 a9 aa ab ac ad ae af) t) (fun t v => H4.rec (motive := fun _ => H4) (fun a0 a1 a2 a3 a4 a5 a6 a7 a8 a9 aa ab ac ad ae af => .mk a0 a1 a2 v a4 a5 a6 a7 a8 a9 aa ab ac ad ae af) t) (fun t v => H4.rec (motive := fun _ => H4) (fun a0 a1 a2 a3 a4 a5 a6 a7 a8 a9 aa ab ac ad ae af => .mk a0 a1 a2 a3 v a5 a6 a7 a8 a9 aa ab ac ad ae af) t) (fun t v => H4.rec (motive := fun _ => H4) (fun a0 a1 a2 a3 a4 a5 a6 a7 a8 a9 aa ab ac ad ae af => .mk a0 a1 a2 a3 a4 v a6 a7 a8 a9 aa ab ac ad ae af) t) (fun t v => H4.rec (motive := fun _ => H4) (fun a0 a1 a2 a3 a4 a5 a6 a7 a8 a9 aa ab ac ad ae af => .mk a0 a1 a2 a3 a4 a5 v a7 a8 a9 aa ab ac ad ae af) t) (fun t v => H4.rec (motive := fun _ => H4) (fun a0 a1 a2 a3 a4 a5 a6 a7 a8 a9 aa ab ac ad ae af => .mk a0 a1 a2 a3 a4 a5 a6 v a8 a9 aa ab ac ad ae af) t) (fun t v => H4.rec (motive := fun _ => H4) (fun a0 a1 a2 a3 a4 a5 a6 a7 a8 a9 aa ab ac ad ae af => .mk a0 a1 a2 a3 a4 a5 a6 a7 v a9 aa ab ac ad ae af) t) (fun t v => H4.rec (motive := fun _ => H4) (fun a0 a1 a2 a3 a4 a5 a6 a7 a8 a9 aa ab ac ad ae af => .mk a0 a1 a2 a3 a4 a5 a6 a7 a8 v aa ab ac ad ae af) t) (fun t v => H4.rec (motive := fun _ => H4) (fun a0 a1 a2 a3 a4 a5 a6 a7 a8 a9 aa ab ac ad ae af => .mk a0 a1 a2 a3 a4 a5 a6 a7 a8 a9 v ab ac ad ae af) t) (fun t v => H4.rec (motive := fun _ => H4) (fun a0 a1 a2 a3 a4 a5 a6 a7 a8 a9 aa ab ac ad ae af => .mk a0 a1 a2 a3 a4 a5 a6 a7 a8 a9 aa v ac ad ae af) t) (fun t v => H4.rec (motive := fun _ => H4) (fun a0 a1 a2 a3 a4 a5 a6 a7 a8 a9 aa ab ac ad ae af => .mk a0 a1 a2 a3 a4 a5 a6 a7 a8 a9 aa ab v ad ae af) t) (fun t v => H4.rec (motive := fun _ => H4) (fun a0 a1 a2 a3 a4 a5 a6 a7 a8 a9 aa ab ac ad ae af => .mk a0 a1 a2 a3 a4 a5 a6 a7 a8 a9 aa ab ac v ae af) t) (fun t v => H4.rec (motive := fun _ => H4) (fun a0 a1 a2 a3 a4 a5 a6 a7 a8 a9 aa ab ac ad ae af => .mk a0 a1 a2 a3 a4 a5 a6 a7 a8 a9 aa ab ac ad v af) t) (fun t v => H4.rec (motive := fun _ => H4) (fun a0 a1 a2 a3 a4 a5 a6 a7 a8 a9 aa ab ac ad ae af => .mk a0 a1 a2 a3 a4 a5 a6 a7 a8 a9 aa ab ac ad ae v) t) d t v
def H5.get (d : D16) (t : H5) : H4 := D16.rec (motive := fun _ => H5 → H4) (fun t => t.c0) (fun t => t.c1) (fun t => t.c2) (fun t => t.c3) (fun t => t.c4) (fun t => t.c5) (fun t => t.c6) (fun t => t.c7) (fun t => t.c8) (fun t => t.c9) (fun t => t.ca) (fun t => t.cb) (fun t => t.cc) (fun t => t.cd) (fun t => t.ce) (fun t => t.cf) d t
def H5.set (d : D16) (t : H5) (v : H4) : H5 := D16.rec (motive := fun _ => H5 → H4 → H5) (fun t v => H5.rec (motive := fun _ => H5) (fun a0 a1 a2 a3 a4 a5 a6 a7 a8 a9 aa ab ac ad ae af => .mk v a1 a2 a3 a4 a5 a6 a7 a8 a9 aa ab ac ad ae af) t) (fun t v => H5.rec (motive := fun _ => H5) (fun a0 a1 a2 a3 a4 a5 a6 a7 a8 a9 aa ab ac ad ae af => .mk a0 v a2 a3 a4 a5 a6 a7 a8 a9 aa ab ac ad ae af) t) (fun t v => H5.rec (motive := fun _ => H5) (fun a0 a1 a2 a3 a4 a5 a6 a7 a8 a9 aa ab ac ad ae af => .mk a0 a1 v a3 a4 a5 a6 a7 a8 a9 aa ab ac ad ae af) t) (fun t v => H5.rec (motive := fun _ => H5) (fun a0 a1 a2 a3 a4 a5 a6 a7 a8 a9 aa ab ac ad ae af => .mk a0 a1 a2 v a4 a5 a6 a7 a8 a9 aa ab ac ad ae af) t) (fun t v => H5.rec (motive := fun _ => H5) (fun a0 a1 a2 a3 a4 a5 a6 a7 a8 a9 aa ab ac ad ae af => .mk a0 a1 a2 a3 v a5 a6 a7 a8 a9 aa ab ac ad ae af) t) (fun t v => H5.rec (motive := fun _ => H5) (fun a0 a1 a2 a3 a4 a5 a6 a7 a8 a9 aa ab ac ad ae af => .mk a0 a1 a2 a3 a4 v a6 a7 a8 a9 aa ab ac ad ae af) t) (fun t v => H5.rec (motive := fun _ => H5) (fun a0 a1 a2 a3 a4 a5 a6 a7 a8 a9 aa ab ac ad ae af => .mk a0 a1 a2 a3 a4 a5 v a7 a8 a9 aa ab ac ad ae af) t) (fun t v => H5.rec (motive := fun _ => H5) (fun a0 a1 a2 a3 a4 a5 a6 a7 a8 a9 aa ab ac ad ae af => .mk a0 a1 a2 a3 a4 a5 a6 v a8 a9 aa ab ac ad ae af) t) (fun t v => H5.rec (motive := fun _ => H5) (fun a0 a1 a2 a3 a4 a5 a6 a7 a8 a9 aa ab ac ad ae af => .mk a0 a1 a2 a3 a4 a5 a6 a7 v a9 aa ab ac ad ae af) t) (fun t v => H5.rec (motive := fun _ => H5) (fun a0 a1 a2 a3 a4 a5 a6 a7 a8 a9 aa ab ac ad ae af => .mk a0 a1 a2 a3 a4 a5 a6 a7 a8 v aa ab ac ad ae af) t) (fun t v => H5.rec (motive := fun _ => H5) (fun a0 a1 a2 a3 a4 a5 a6 a7 a8 a9 aa ab ac ad ae af => .mk a0 a1 a2 a3 a4 a5 a6 a7 a8 a9 v ab ac ad ae af) t) (fun t v => H5.rec (motive := fun _ => H5) (fun a0 a1 a2 a3 a4 a5 a6 a7 a8 a9 aa ab ac ad ae af => .mk a0 a1 a2 a3 a4 a5 a6 a7 a8 a9 aa v ac ad ae af) t) (fun t v => H5.rec (motive := fun _ => H5) (fun a0 a1 a2 a3 a4 a5 a6 a7 a8 a9 aa ab ac ad ae af => .mk a0 a1 a2 a3 a4 a5 a6 a7 a8 a9 aa ab v ad ae af) t) (fun t v => H5.rec (motive := fun _ => H5) (fun a0 a1 a2 a3 a4 a5 a6 a7 a8 a9 aa ab ac ad ae af => .mk a0 a1 a2 a3 a4 a5 a6 a7 a8 a9 aa ab ac v ae af) t) (fun t v => H5.rec (motive := fun _ => H5) (fun a0 a1 a2 a3 a4 a5 a6 a7 a8 a9 aa ab ac ad ae af => .mk a0 a1 a2 a3 a4 a5 a6 a7 a8 a9 aa ab ac ad v af) t) (fun t v => H5.rec (motive := fun _ => H5) (fun a0 a1 a2 a3 a4 a5 a6 a7 a8 a9 aa ab ac ad ae af => .mk a0 a1 a2 a3 a4 a5 a6 a7 a8 a9 aa ab ac ad ae v) t) d t v
def H5.at (t : H5) (b : Bid) : Blk := Bid.rec (motive := fun _ => Blk) (fun z a b c d => ((((t.get z).get a).get b).get c).get d) b
def H4.putD (t : H4) (a b c d : D16) (v : Blk) : H4 := t.set a ((t.get a).set b (((t.get a).get b).set c ((((t.get a).get b).get c).set d v)))
def H5.put (t : H5) (b : Bid) (v : Blk) : H5 := Bid.rec (motive := fun _ => H5) (fun z a b c d => t.set z ((t.get z).putD a b c d v)) b
def D16.inc (d : D16) {α : Type} (ov : α) (k : D16 → α) : α := D16.rec (motive := fun _ => α) (k .d1) (k .d2) (k .d3) (k .d4) (k .d5) (k .d6) (k .d7) (k .d8) (k .d9) (k .da) (k .db) (k .dc) (k .dd) (k .de) (k .df) ov d
def Bid.next (b : Bid) : Bid := Bid.rec (motive := fun _ => Bid) (fun z a b c d => d.inc (c.inc (b.inc (a.inc (z.inc ⟨.df, .df, .df, .df, .df⟩ fun z => ⟨z, .d0, .d0, .d0, .d0⟩) fun a => ⟨z, a, .d0, .d0, .d0⟩) fun b => ⟨z, a, b, .d0, .d0⟩) fun c => ⟨z, a, b, c, .d0⟩) fun d => ⟨z, a, b, c, d⟩) b
def St.put (σ : St) (b : Bid) (k : Blk) : St := ⟨σ.h.put b k, σ.nx⟩
def St.new (σ : St) (k : Blk) : St := ⟨σ.h.put σ.nx k, σ.nx.next⟩
def g0 (T : Tm) : AV := T.c0.c0
def g1 (T : Tm) : AV := T.c0.c1
def g2 (T : Tm) : AV := T.c0.c2
def g3 (T : Tm) : AV := T.c0.c3
def g4 (T : Tm) : AV := T.c0.c4
def g5 (T : Tm) : AV := T.c0.c5
def g6 (T : Tm) : AV := T.c0.c6
def g7 (T : Tm) : AV := T.c0.c7
def g8 (T : Tm) : AV := T.c0.c8
def g9 (T : Tm) : AV := T.c0.c9
def g10 (T : Tm) : AV := T.c0.ca
def g11 (T : Tm) : AV := T.c0.cb
def g12 (T : Tm) : AV := T.c0.cc
def g13 (T : Tm) : AV := T.c0.cd
def g14 (T : Tm) : AV := T.c0.ce
def g15 (T : Tm) : AV := T.c0.cf
def g16 (T : Tm) : AV := T.c1.c0
def g17 (T : Tm) : AV := T.c1.c1
def g18 (T : Tm) : AV := T.c1.c2
def g19 (T : Tm) : AV := T.c1.c3
def g20 (T : Tm) : AV := T.c1.c4
def g21 (T : Tm) : AV := T.c1.c5
def g22 (T : Tm) : AV := T.c1.c6
def g23 (T : Tm) : AV := T.c1.c7
def g24 (T : Tm) : AV := T.c1.c8
def g25 (T : Tm) : AV := T.c1.c9
def g26 (T : Tm) : AV := T.c1.ca
def g27 (T : Tm) : AV := T.c1.cb
def g28 (T : Tm) : AV := T.c1.cc
def g29 (T : Tm) : AV := T.c1.cd
def g30 (T : Tm) : AV := T.c1.ce
def g31 (T : Tm) : AV := T.c1.cf
def g32 (T : Tm) : AV := T.c2.c0
def g33 (T : Tm) : AV := T.c2.c1
def g34 (T : Tm) : AV := T.c2.c2
def g35 (T : Tm) : AV := T.c2.c3
def g36 (T : Tm) : AV := T.c2.c4
def g37 (T : Tm) : AV := T.c2.c5
def g38 (T : Tm) : AV := T.c2.c6
def g39 (T : Tm) : AV := T.c2.c7
def g40 (T : Tm) : AV := T.c2.c8
def g41 (T : Tm) : AV := T.c2.c9
def g42 (T : Tm) : AV := T.c2.ca
def g43 (T : Tm) : AV := T.c2.cb
def g44 (T : Tm) : AV := T.c2.cc
def g45 (T : Tm) : AV := T.c2.cd
def g46 (T : Tm) : AV := T.c2.ce
def g47 (T : Tm) : AV := T.c2.cf
def g48 (T : Tm) : AV := T.c3.c0
def g49 (T : Tm) : AV := T.c3.c1
def g50 (T : Tm) : AV := T.c3.c2
def g51 (T : Tm) : AV := T.c3.c3
def g52 (T : Tm) : AV := T.c3.c4
def g53 (T : Tm) : AV := T.c3.c5
def g54 (T : Tm) : AV := T.c3.c6
def g55 (T : Tm) : AV := T.c3.c7
def g56 (T : Tm) : AV := T.c3.c8
def g57 (T : Tm) : AV := T.c3.c9
def g58 (T : Tm) : AV := T.c3.ca
def g59 (T : Tm) : AV := T.c3.cb
def g60 (T : Tm) : AV := T.c3.cc
def g61 (T : Tm) : AV := T.c3.cd
def g62 (T : Tm) : AV := T.c3.ce
def g63 (T : Tm) : AV := T.c3.cf
def g64 (T : Tm) : AV := T.c4.c0
def g65 (T : Tm) : AV := T.c4.c1
def g66 (T : Tm) : AV := T.c4.c2
def g67 (T : Tm) : AV := T.c4.c3
def g68 (T : Tm) : AV := T.c4.c4
def g69 (T : Tm) : AV := T.c4.c5
def g70 (T : Tm) : AV := T.c4.c6
def g71 (T : Tm) : AV := T.c4.c7
def g72 (T : Tm) : AV := T.c4.c8
def g73 (T : Tm) : AV := T.c4.c9
def g74 (T : Tm) : AV := T.c4.ca
def g75 (T : Tm) : AV := T.c4.cb
def g76 (T : Tm) : AV := T.c4.cc
def g77 (T : Tm) : AV := T.c4.cd
def g78 (T : Tm) : AV := T.c4.ce
def g79 (T : Tm) : AV := T.c4.cf
def g80 (T : Tm) : AV := T.c5.c0
def g81 (T : Tm) : AV := T.c5.c1
def g82 (T : Tm) : AV := T.c5.c2
def g83 (T : Tm) : AV := T.c5.c3
def g84 (T : Tm) : AV := T.c5.c4
def g85 (T : Tm) : AV := T.c5.c5
def g86 (T : Tm) : AV := T.c5.c6
def g87 (T : Tm) : AV := T.c5.c7
def g88 (T : Tm) : AV := T.c5.c8
def g89 (T : Tm) : AV := T.c5.c9
def g90 (T : Tm) : AV := T.c5.ca
def g91 (T : Tm) : AV := T.c5.cb
def g92 (T : Tm) : AV := T.c5.cc
def g93 (T : Tm) : AV := T.c5.cd
def g94 (T : Tm) : AV := T.c5.ce
def g95 (T : Tm) : AV := T.c5.cf
def g96 (T : Tm) : AV := T.c6.c0
def g97 (T : Tm) : AV := T.c6.c1
def g98 (T : Tm) : AV := T.c6.c2
def g99 (T : Tm) : AV := T.c6.c3
def g100 (T : Tm) : AV := T.c6.c4
def g101 (T : Tm) : AV := T.c6.c5
def g102 (T : Tm) : AV := T.c6.c6
def g103 (T : Tm) : AV := T.c6.c7
def g104 (T : Tm) : AV := T.c6.c8
def g105 (T : Tm) : AV := T.c6.c9
def g106 (T : Tm) : AV := T.c6.ca
def g107 (T : Tm) : AV := T.c6.cb
def g108 (T : Tm) : AV := T.c6.cc
def g109 (T : Tm) : AV := T.c6.cd
def g110 (T : Tm) : AV := T.c6.ce
def g111 (T : Tm) : AV := T.c6.cf
def g112 (T : Tm) : AV := T.c7.c0
def g113 (T : Tm) : AV := T.c7.c1
def g114 (T : Tm) : AV := T.c7.c2
def g115 (T : Tm) : AV := T.c7.c3
def g116 (T : Tm) : AV := T.c7.c4
def g117 (T : Tm) : AV := T.c7.c5
def g118 (T : Tm) : AV := T.c7.c6
def g119 (T : Tm) : AV := T.c7.c7
def g120 (T : Tm) : AV := T.c7.c8
def g121 (T : Tm) : AV := T.c7.c9
def g122 (T : Tm) : AV := T.c7.ca
def g123 (T : Tm) : AV := T.c7.cb
def g124 (T : Tm) : AV := T.c7.cc
def g125 (T : Tm) : AV := T.c7.cd
def g126 (T : Tm) : AV := T.c7.ce
def g127 (T : Tm) : AV := T.c7.cf
def g128 (T : Tm) : AV := T.c8.c0
def g129 (T : Tm) : AV := T.c8.c1
def g130 (T : Tm) : AV := T.c8.c2
def g131 (T : Tm) : AV := T.c8.c3
def g132 (T : Tm) : AV := T.c8.c4
def g133 (T : Tm) : AV := T.c8.c5
def g134 (T : Tm) : AV := T.c8.c6
def g135 (T : Tm) : AV := T.c8.c7
def g136 (T : Tm) : AV := T.c8.c8
def g137 (T : Tm) : AV := T.c8.c9
def g138 (T : Tm) : AV := T.c8.ca
def g139 (T : Tm) : AV := T.c8.cb
def g140 (T : Tm) : AV := T.c8.cc
def g141 (T : Tm) : AV := T.c8.cd
def g142 (T : Tm) : AV := T.c8.ce
def g143 (T : Tm) : AV := T.c8.cf
def g144 (T : Tm) : AV := T.c9.c0
def g145 (T : Tm) : AV := T.c9.c1
def g146 (T : Tm) : AV := T.c9.c2
def g147 (T : Tm) : AV := T.c9.c3
def g148 (T : Tm) : AV := T.c9.c4
def g149 (T : Tm) : AV := T.c9.c5
def g150 (T : Tm) : AV := T.c9.c6
def g151 (T : Tm) : AV := T.c9.c7
def g152 (T : Tm) : AV := T.c9.c8
def g153 (T : Tm) : AV := T.c9.c9
def g154 (T : Tm) : AV := T.c9.ca
def g155 (T : Tm) : AV := T.c9.cb
def g156 (T : Tm) : AV := T.c9.cc
def g157 (T : Tm) : AV := T.c9.cd
def g158 (T : Tm) : AV := T.c9.ce
def g159 (T : Tm) : AV := T.c9.cf
def g160 (T : Tm) : AV := T.ca.c0
def g161 (T : Tm) : AV := T.ca.c1
def g162 (T : Tm) : AV := T.ca.c2
def g163 (T : Tm) : AV := T.ca.c3
def g164 (T : Tm) : AV := T.ca.c4
def g165 (T : Tm) : AV := T.ca.c5
def g166 (T : Tm) : AV := T.ca.c6
def g167 (T : Tm) : AV := T.ca.c7
def g168 (T : Tm) : AV := T.ca.c8
def g169 (T : Tm) : AV := T.ca.c9
def g170 (T : Tm) : AV := T.ca.ca
def g171 (T : Tm) : AV := T.ca.cb
def g172 (T : Tm) : AV := T.ca.cc
def g173 (T : Tm) : AV := T.ca.cd
def g174 (T : Tm) : AV := T.ca.ce
def g175 (T : Tm) : AV := T.ca.cf
def g176 (T : Tm) : AV := T.cb.c0
def g177 (T : Tm) : AV := T.cb.c1
def g178 (T : Tm) : AV := T.cb.c2
def g179 (T : Tm) : AV := T.cb.c3
def g180 (T : Tm) : AV := T.cb.c4
def g181 (T : Tm) : AV := T.cb.c5
def g182 (T : Tm) : AV := T.cb.c6
def g183 (T : Tm) : AV := T.cb.c7
def g184 (T : Tm) : AV := T.cb.c8
def g185 (T : Tm) : AV := T.cb.c9
def g186 (T : Tm) : AV := T.cb.ca
def g187 (T : Tm) : AV := T.cb.cb
def g188 (T : Tm) : AV := T.cb.cc
def g189 (T : Tm) : AV := T.cb.cd
def g190 (T : Tm) : AV := T.cb.ce
def g191 (T : Tm) : AV := T.cb.cf
def g192 (T : Tm) : AV := T.cc.c0
def g193 (T : Tm) : AV := T.cc.c1
def g194 (T : Tm) : AV := T.cc.c2
def g195 (T : Tm) : AV := T.cc.c3
def g196 (T : Tm) : AV := T.cc.c4
def g197 (T : Tm) : AV := T.cc.c5
def g198 (T : Tm) : AV := T.cc.c6
def g199 (T : Tm) : AV := T.cc.c7
def g200 (T : Tm) : AV := T.cc.c8
def g201 (T : Tm) : AV := T.cc.c9
def g202 (T : Tm) : AV := T.cc.ca
def g203 (T : Tm) : AV := T.cc.cb
def g204 (T : Tm) : AV := T.cc.cc
def g205 (T : Tm) : AV := T.cc.cd
def g206 (T : Tm) : AV := T.cc.ce
def g207 (T : Tm) : AV := T.cc.cf
def g208 (T : Tm) : AV := T.cd.c0
def g209 (T : Tm) : AV := T.cd.c1
def g210 (T : Tm) : AV := T.cd.c2
def g211 (T : Tm) : AV := T.cd.c3
def g212 (T : Tm) : AV := T.cd.c4
def g213 (T : Tm) : AV := T.cd.c5
def g214 (T : Tm) : AV := T.cd.c6
def g215 (T : Tm) : AV := T.cd.c7
def g216 (T : Tm) : AV := T.cd.c8
def g217 (T : Tm) : AV := T.cd.c9
def g218 (T : Tm) : AV := T.cd.ca
def g219 (T : Tm) : AV := T.cd.cb
def g220 (T : Tm) : AV := T.cd.cc
def g221 (T : Tm) : AV := T.cd.cd
def g222 (T : Tm) : AV := T.cd.ce
def g223 (T : Tm) : AV := T.cd.cf
def g224 (T : Tm) : AV := T.ce.c0
def g225 (T : Tm) : AV := T.ce.c1
def g226 (T : Tm) : AV := T.ce.c2
def g227 (T : Tm) : AV := T.ce.c3
def g228 (T : Tm) : AV := T.ce.c4
def g229 (T : Tm) : AV := T.ce.c5
def g230 (T : Tm) : AV := T.ce.c6
def g231 (T : Tm) : AV := T.ce.c7
def g232 (T : Tm) : AV := T.ce.c8
def g233 (T : Tm) : AV := T.ce.c9
def g234 (T : Tm) : AV := T.ce.ca
def g235 (T : Tm) : AV := T.ce.cb
def g236 (T : Tm) : AV := T.ce.cc
def g237 (T : Tm) : AV := T.ce.cd
def g238 (T : Tm) : AV := T.ce.ce
def g239 (T : Tm) : AV := T.ce.cf
def g240 (T : Tm) : AV := T.cf.c0
def g241 (T : Tm) : AV := T.cf.c1
def g242 (T : Tm) : AV := T.cf.c2
def g243 (T : Tm) : AV := T.cf.c3
def g244 (T : Tm) : AV := T.cf.c4
def g245 (T : Tm) : AV := T.cf.c5
def g246 (T : Tm) : AV := T.cf.c6
def g247 (T : Tm) : AV := T.cf.c7
def g248 (T : Tm) : AV := T.cf.c8
def g249 (T : Tm) : AV := T.cf.c9
def g250 (T : Tm) : AV := T.cf.ca
def g251 (T : Tm) : AV := T.cf.cb
def g252 (T : Tm) : AV := T.cf.cc
def g253 (T : Tm) : AV := T.cf.cd
def g254 (T : Tm) : AV := T.cf.ce
def g255 (T : Tm) : AV := T.cf.cf
def s0 (T : Tm) (v : AV) : Tm := T2.rec (motive := fun _ => Tm) (fun a0 a1 a2 a3 a4 a5 a6 a7 a8 a9 aa ab ac ad ae af => T1.rec (motive := fun _ => Tm) (fun b0 b1 b2 b3 b4 b5 b6 b7 b8 b9 ba bb bc bd be bf => .mk (.mk v b1 b2 b3 b4 b5 b6 b7 b8 b9 ba bb bc bd be bf) a1 a2 a3 a4 a5 a6 a7 a8 a9 aa ab ac ad ae af) a0) T
def s1 (T : Tm) (v : AV) : Tm := T2.rec (motive := fun _ => Tm) (fun a0 a1 a2 a3 a4 a5 a6 a7 a8 a9 aa ab ac ad ae af => T1.rec (motive := fun _ => Tm) (fun b0 b1 b2 b3 b4 b5 b6 b7 b8 b9 ba bb bc bd be bf => .mk (.mk b0 v b2 b3 b4 b5 b6 b7 b8 b9 ba bb bc bd be bf) a1 a2 a3 a4 a5 a6 a7 a8 a9 aa ab ac ad ae af) a0) T
def s2 (T : Tm) (v : AV) : Tm := T2.rec (motive := fun _ => Tm) (fun a0 a1 a2 a3 a4 a5 a6 a7 a8 a9 aa ab ac ad ae af => T1.rec (motive := fun _ => Tm) (fun b0 b1 b2 b3 b4 b5 b6 b7 b8 b9 ba bb bc bd be bf => .mk (.mk b0 b1 v b3 b4 b5 b6 b7 b8 b9 ba bb bc bd be bf) a1 a2 a3 a4 a5 a6 a7 a8 a9 aa ab ac ad ae af) a0) T
def s3 (T : Tm) (v : AV) : Tm := T2.rec (motive := fun _ => Tm) (fun a0 a1 a2 a3 a4 a5 a6 a7 a8 a9 aa ab ac ad ae af => T1.rec (motive := fun _ => Tm) (fun b0 b1 b2 b3 b4 b5 b6 b7 b8 b9 ba bb bc bd be bf => .mk (.mk b0 b1 b2 v b4 b5 b6 b7 b8 b9 ba bb bc bd be bf) a1 a2 a3 a4 a5 a6 a7 a8 a9 aa ab ac ad ae af) a0) T
def s4 (T : Tm) (v : AV) : Tm := T2.rec (motive := fun _ => Tm) (fun a0 a1 a2 a3 a4 a5 a6 a7 a8 a9 aa ab ac ad ae af => T1.rec (motive := fun _ => Tm) (fun b0 b1 b2 b3 b4 b5 b6 b7 b8 b9 ba bb bc bd be bf => .mk (.mk b0 b1 b2 b3 v b5 b6 b7 b8 b9 ba bb bc bd be bf) a1 a2 a3 a4 a5 a6 a7 a8 a9 aa ab ac ad ae af) a0) T
def s5 (T : Tm) (v : AV) : Tm := T2.rec (motive := fun _ => Tm) (fun a0 a1 a2 a3 a4 a5 a6 a7 a8 a9 aa ab ac ad ae af => T1.rec (motive := fun _ => Tm) (fun b0 b1 b2 b3 b4 b5 b6 b7 b8 b9 ba bb bc bd be bf => .mk (.mk b0 b1 b2 b3 b4 v b6 b7 b8 b9 ba bb bc bd be bf) a1 a2 a3 a4 a5 a6 a7 a8 a9 aa ab ac ad ae af) a0) T
def s6 (T : Tm) (v : AV) : Tm := T2.rec (motive := fun _ => Tm) (fun a0 a1 a2 a3 a4 a5 a6 a7 a8 a9 aa ab ac ad ae af => T1.rec (motive := fun _ => Tm) (fun b0 b1 b2 b3 b4 b5 b6 b7 b8 b9 ba bb bc bd be bf => .mk (.mk b0 b1 b2 b3 b4 b5 v b7 b8 b9 ba bb bc bd be bf) a1 a2 a3 a4 a5 a6 a7 a8 a9 aa ab ac ad ae af) a0) T
def s7 (T : Tm) (v : AV) : Tm := T2.rec (motive := fun _ => Tm) (fun a0 a1 a2 a3 a4 a5 a6 a7 a8 a9 aa ab ac ad ae af => T1.rec (motive := fun _ => Tm) (fun b0 b1 b2 b3 b4 b5 b6 b7 b8 b9 ba bb bc bd be bf => .mk (.mk b0 b1 b2 b3 b4 b5 b6 v b8 b9 ba bb bc bd be bf) a1 a2 a3 a4 a5 a6 a7 a8 a9 aa ab ac ad ae af) a0) T
def s8 (T : Tm) (v : AV) : Tm := T2.rec (motive := fun _ => Tm) (fun a0 a1 a2 a3 a4 a5 a6 a7 a8 a9 aa ab ac ad ae af => T1.rec (motive := fun _ => Tm) (fun b0 b1 b2 b3 b4 b5 b6 b7 b8 b9 ba bb bc bd be bf => .mk (.mk b0 b1 b2 b3 b4 b5 b6 b7 v b9 ba bb bc bd be bf) a1 a2 a3 a4 a5 a6 a7 a8 a9 aa ab ac ad ae af) a0) T
def s9 (T : Tm) (v : AV) : Tm := T2.rec (motive := fun _ => Tm) (fun a0 a1 a2 a3 a4 a5 a6 a7 a8 a9 aa ab ac ad ae af => T1.rec (motive := fun _ => Tm) (fun b0 b1 b2 b3 b4 b5 b6 b7 b8 b9 ba bb bc bd be bf => .mk (.mk b0 b1 b2 b3 b4 b5 b6 b7 b8 v ba bb bc bd be bf) a1 a2 a3 a4 a5 a6 a7 a8 a9 aa ab ac ad ae af) a0) T
def s10 (T : Tm) (v : AV) : Tm := T2.rec (motive := fun _ => Tm) (fun a0 a1 a2 a3 a4 a5 a6 a7 a8 a9 aa ab ac ad ae af => T1.rec (motive := fun _ => Tm) (fun b0 b1 b2 b3 b4 b5 b6 b7 b8 b9 ba bb bc bd be bf => .mk (.mk b0 b1 b2 b3 b4 b5 b6 b7 b8 b9 v bb bc bd be bf) a1 a2 a3 a4 a5 a6 a7 a8 a9 aa ab ac ad ae af) a0) T
def s11 (T : Tm) (v : AV) : Tm := T2.rec (motive := fun _ => Tm) (fun a0 a1 a2 a3 a4 a5 a6 a7 a8 a9 aa ab ac ad ae af => T1.rec (motive := fun _ => Tm) (fun b0 b1 b2 b3 b4 b5 b6 b7 b8 b9 ba bb bc bd be bf => .mk (.mk b0 b1 b2 b3 b4 b5 b6 b7 b8 b9 ba v bc bd be bf) a1 a2 a3 a4 a5 a6 a7 a8 a9 aa ab ac ad ae af) a0) T
def s12 (T : Tm) (v : AV) : Tm := T2.rec (motive := fun _ => Tm) (fun a0 a1 a2 a3 a4 a5 a6 a7 a8 a9 aa ab ac ad ae af => T1.rec (motive := fun _ => Tm) (fun b0 b1 b2 b3 b4 b5 b6 b7 b8 b9 ba bb bc bd be bf => .mk (.mk b0 b1 b2 b3 b4 b5 b6 b7 b8 b9 ba bb v bd be bf) a1 a2 a3 a4 a5 a6 a7 a8 a9 aa ab ac ad ae af) a0) T
def s13 (T : Tm) (v : AV) : Tm := T2.rec (motive := fun _ => Tm) (fun a0 a1 a2 a3 a4 a5 a6 a7 a8 a9 aa ab ac ad ae af => T1.rec (motive := fun _ => Tm) (fun b0 b1 b2 b3 b4 b5 b6 b7 b8 b9 ba bb bc bd be bf => .mk (.mk b0 b1 b2 b3 b4 b5 b6 b7 b8 b9 ba bb bc v be bf) a1 a2 a3 a4 a5 a6 a7 a8 a9 aa ab ac ad ae af) a0) T
def s14 (T : Tm) (v : AV) : Tm := T2.rec (motive := fun _ => Tm) (fun a0 a1 a2 a3 a4 a5 a6 a7 a8 a9 aa ab ac ad ae af => T1.rec (motive := fun _ => Tm) (fun b0 b1 b2 b3 b4 b5 b6 b7 b8 b9 ba bb bc bd be bf => .mk (.mk b0 b1 b2 b3 b4 b5 b6 b7 b8 b9 ba bb bc bd v bf) a1 a2 a3 a4 a5 a6 a7 a8 a9 aa ab ac ad ae af) a0) T
def s15 (T : Tm) (v : AV) : Tm := T2.rec (motive := fun _ => Tm) (fun a0 a1 a2 a3 a4 a5 a6 a7 a8 a9 aa ab ac ad ae af => T1.rec (motive := fun _ => Tm) (fun b0 b1 b2 b3 b4 b5 b6 b7 b8 b9 ba bb bc bd be bf => .mk (.mk b0 b1 b2 b3 b4 b5 b6 b7 b8 b9 ba bb bc bd be v) a1 a2 a3 a4 a5 a6 a7 a8 a9 aa ab ac ad ae af) a0) T
def s16 (T : Tm) (v : AV) : Tm := T2.rec (motive := fun _ => Tm) (fun a0 a1 a2 a3 a4 a5 a6 a7 a8 a9 aa ab ac ad ae af => T1.rec (motive := fun _ => Tm) (fun b0 b1 b2 b3 b4 b5 b6 b7 b8 b9 ba bb bc bd be bf => .mk a0 (.mk v b1 b2 b3 b4 b5 b6 b7 b8 b9 ba bb bc bd be bf) a2 a3 a4 a5 a6 a7 a8 a9 aa ab ac ad ae af) a1) T
def s17 (T : Tm) (v : AV) : Tm := T2.rec (motive := fun _ => Tm) (fun a0 a1 a2 a3 a4 a5 a6 a7 a8 a9 aa ab ac ad ae af => T1.rec (motive := fun _ => Tm) (fun b0 b1 b2 b3 b4 b5 b6 b7 b8 b9 ba bb bc bd be bf => .mk a0 (.mk b0 v b2 b3 b4 b5 b6 b7 b8 b9 ba bb bc bd be bf) a2 a3 a4 a5 a6 a7 a8 a9 aa ab ac ad ae af) a1) T
def s18 (T : Tm) (v : AV) : Tm := T2.rec (motive := fun _ => Tm) (fun a0 a1 a2 a3 a4 a5 a6 a7 a8 a9 aa ab ac ad ae af => T1.rec (motive := fun _ => Tm) (fun b0 b1 b2 b3 b4 b5 b6 b7 b8 b9 ba bb bc bd be bf => .mk a0 (.mk b0 b1 v b3 b4 b5 b6 b7 b8 b9 ba bb bc bd be bf) a2 a3 a4 a5 a6 a7 a8 a9 aa ab ac ad ae af) a1) T
def s19 (T : Tm) (v : AV) : Tm := T2.rec (motive := fun _ => Tm) (fun a0 a1 a2 a3 a4 a5 a6 a7 a8 a9 aa ab ac ad ae af => T1.rec (motive := fun _ => Tm) (fun b0 b1 b2 b3 b4 b5 b6 b7 b8 b9 ba bb bc bd be bf => .mk a0 (.mk b0 b1 b2 v b4 b5 b6 b7 b8 b9 ba bb bc bd be bf) a2 a3 a4 a5 a6 a7 a8 a9 aa ab ac ad ae af) a1) T
def s20 (T : Tm) (v : AV) : Tm := T2.rec (motive := fun _ => Tm) (fun a0 a1 a2 a3 a4 a5 a6 a7 a8 a9 aa ab ac ad ae af => T1.rec (motive := fun _ => Tm) (fun b0 b1 b2 b3 b4 b5 b6 b7 b8 b9 ba bb bc bd be bf => .mk a0 (.mk b0 b1 b2 b3 v b5 b6 b7 b8 b9 ba bb bc bd be bf) a2 a3 a4 a5 a6 a7 a8 a9 aa ab ac ad ae af) a1) T
def s21 (T : Tm) (v : AV) : Tm := T2.rec (motive := fun _ => Tm) (fun a0 a1 a2 a3 a4 a5 a6 a7 a8 a9 aa ab ac ad ae af => T1.rec (motive := fun _ => Tm) (fun b0 b1 b2 b3 b4 b5 b6 b7 b8 b9 ba bb bc bd be bf => .mk a0 (.mk b0 b1 b2 b3 b4 v b6 b7 b8 b9 ba bb bc bd be bf) a2 a3 a4 a5 a6 a7 a8 a9 aa ab ac ad ae af) a1) T
def s22 (T : Tm) (v : AV) : Tm := T2.rec (motive := fun _ => Tm) (fun a0 a1 a2 a3 a4 a5 a6 a7 a8 a9 aa ab ac ad ae af => T1.rec (motive := fun _ => Tm) (fun b0 b1 b2 b3 b4 b5 b6 b7 b8 b9 ba bb bc bd be bf => .mk a0 (.mk b0 b1 b2 b3 b4 b5 v b7 b8 b9 ba bb bc bd be bf) a2 a3 a4 a5 a6 a7 a8 a9 aa ab ac ad ae af) a1) T
def s23 (T : Tm) (v : AV) : Tm := T2.rec (motive := fun _ => Tm) (fun a0 a1 a2 a3 a4 a5 a6 a7 a8 a9 aa ab ac ad ae af => T1.rec (motive := fun _ => Tm) (fun b0 b1 b2 b3 b4 b5 b6 b7 b8 b9 ba bb bc bd be bf => .mk a0 (.mk b0 b1 b2 b3 b4 b5 b6 v b8 b9 ba bb bc bd be bf) a2 a3 a4 a5 a6 a7 a8 a9 aa ab ac ad ae af) a1) T
def s24 (T : Tm) (v : AV) : Tm := T2.rec (motive := fun _ => Tm) (fun a0 a1 a2 a3 a4 a5 a6 a7 a8 a9 aa ab ac ad ae af => T1.rec (motive := fun _ => Tm) (fun b0 b1 b2 b3 b4 b5 b6 b7 b8 b9 ba bb bc bd be bf => .mk a0 (.mk b0 b1 b2 b3 b4 b5 b6 b7 v b9 ba bb bc bd be bf) a2 a3 a4 a5 a6 a7 a8 a9 aa ab ac ad ae af) a1) T
def s25 (T : Tm) (v : AV) : Tm := T2.rec (motive := fun _ => Tm) (fun a0 a1 a2 a3 a4 a5 a6 a7 a8 a9 aa ab ac ad ae af => T1.rec (motive := fun _ => Tm) (fun b0 b1 b2 b3 b4 b5 b6 b7 b8 b9 ba bb bc bd be bf => .mk a0 (.mk b0 b1 b2 b3 b4 b5 b6 b7 b8 v ba bb bc bd be bf) a2 a3 a4 a5 a6 a7 a8 a9 aa ab ac ad ae af) a1) T
def s26 (T : Tm) (v : AV) : Tm := T2.rec (motive := fun _ => Tm) (fun a0 a1 a2 a3 a4 a5 a6 a7 a8 a9 aa ab ac ad ae af => T1.rec (motive := fun _ => Tm) (fun b0 b1 b2 b3 b4 b5 b6 b7 b8 b9 ba bb bc bd be bf => .mk a0 (.mk b0 b1 b2 b3 b4 b5 b6 b7 b8 b9 v bb bc bd be bf) a2 a3 a4 a5 a6 a7 a8 a9 aa ab ac ad ae af) a1) T
def s27 (T : Tm) (v : AV) : Tm := T2.rec (motive := fun _ => Tm) (fun a0 a1 a2 a3 a4 a5 a6 a7 a8 a9 aa ab ac ad ae af => T1.rec (motive := fun _ => Tm) (fun b0 b1 b2 b3 b4 b5 b6 b7 b8 b9 ba bb bc bd be bf => .mk a0 (.mk b0 b1 b2 b3 b4 b5 b6 b7 b8 b9 ba v bc bd be bf) a2 a3 a4 a5 a6 a7 a8 a9 aa ab ac ad ae af) a1) T
def s28 (T : Tm) (v : AV) : Tm := T2.rec (motive := fun _ => Tm) (fun a0 a1 a2 a3 a4 a5 a6 a7 a8 a9 aa ab ac ad ae af => T1.rec (motive := fun _ => Tm) (fun b0 b1 b2 b3 b4 b5 b6 b7 b8 b9 ba bb bc bd be bf => .mk a0 (.mk b0 b1 b2 b3 b4 b5 b6 b7 b8 b9 ba bb v bd be bf) a2 a3 a4 a5 a6 a7 a8 a9 aa ab ac ad ae af) a1) T
def s29 (T : Tm) (v : AV) : Tm := T2.rec (motive := fun _ => Tm) (fun a0 a1 a2 a3 a4 a5 a6 a7 a8 a9 aa ab ac ad ae af => T1.rec (motive := fun _ => Tm) (fun b0 b1 b2 b3 b4 b5 b6 b7 b8 b9 ba bb bc bd be bf => .mk a0 (.mk b0 b1 b2 b3 b4 b5 b6 b7 b8 b9 ba bb bc v be bf) a2 a3 a4 a5 a6 a7 a8 a9 aa ab ac ad ae af) a1) T
def s30 (T : Tm) (v : AV) : Tm := T2.rec (motive := fun _ => Tm) (fun a0 a1 a2 a3 a4 a5 a6 a7 a8 a9 aa ab ac ad ae af => T1.rec (motive := fun _ => Tm) (fun b0 b1 b2 b3 b4 b5 b6 b7 b8 b9 ba bb bc bd be bf => .mk a0 (.mk b0 b1 b2 b3 b4 b5 b6 b7 b8 b9 ba bb bc bd v bf) a2 a3 a4 a5 a6 a7 a8 a9 aa ab ac ad ae af) a1) T
def s31 (T : Tm) (v : AV) : Tm := T2.rec (motive := fun _ => Tm) (fun a0 a1 a2 a3 a4 a5 a6 a7 a8 a9 aa ab ac ad ae af => T1.rec (motive := fun _ => Tm) (fun b0 b1 b2 b3 b4 b5 b6 b7 b8 b9 ba bb bc bd be bf => .mk a0 (.mk b0 b1 b2 b3 b4 b5 b6 b7 b8 b9 ba bb bc bd be v) a2 a3 a4 a5 a6 a7 a8 a9 aa ab ac ad ae af) a1) T
def s32 (T : Tm) (v : AV) : Tm := T2.rec (motive := fun _ => Tm) (fun a0 a1 a2 a3 a4 a5 a6 a7 a8 a9 aa ab ac ad ae af => T1.rec (motive := fun _ => Tm) (fun b0 b1 b2 b3 b4 b5 b6 b7 b8 b9 ba bb bc bd be bf => .mk a0 a1 (.mk v b1 b2 b3 b4 b5 b6 b7 b8 b9 ba bb bc bd be bf) a3 a4 a5 a6 a7 a8 a9 aa ab ac ad ae af) a2) T
def s33 (T : Tm) (v : AV) : Tm := T2.rec (motive := fun _ => Tm) (fun a0 a1 a2 a3 a4 a5 a6 a7 a8 a9 aa ab ac ad ae af => T1.rec (motive := fun _ => Tm) (fun b0 b1 b2 b3 b4 b5 b6 b7 b8 b9 ba bb bc bd be bf => .mk a0 a1 (.mk b0 v b2 b3 b4 b5 b6 b7 b8 b9 ba bb bc bd be bf) a3 a4 a5 a6 a7 a8 a9 aa ab ac ad ae af) a2) T
def s34 (T : Tm) (v : AV) : Tm := T2.rec (motive := fun _ => Tm) (fun a0 a1 a2 a3 a4 a5 a6 a7 a8 a9 aa ab ac ad ae af => T1.rec (motive := fun _ => Tm) (fun b0 b1 b2 b3 b4 b5 b6 b7 b8 b9 ba bb bc bd be bf => .mk a0 a1 (.mk b0 b1 v b3 b4 b5 b6 b7 b8 b9 ba bb bc bd be bf) a3 a4 a5 a6 a7 a8 a9 aa ab ac ad ae af) a2) T
def s35 (T : Tm) (v : AV) : Tm := T2.rec (motive := fun _ => Tm) (fun a0 a1 a2 a3 a4 a5 a6 a7 a8 a9 aa ab ac ad ae af => T1.rec (motive := fun _ => Tm) (fun b0 b1 b2 b3 b4 b5 b6 b7 b8 b9 ba bb bc bd be bf => .mk a0 a1 (.mk b0 b1 b2 v b4 b5 b6 b7 b8 b9 ba bb bc bd be bf) a3 a4 a5 a6 a7 a8 a9 aa ab ac ad ae af) a2) T
def s36 (T : Tm) (v : AV) : Tm := T2.rec (motive := fun _ => Tm) (fun a0 a1 a2 a3 a4 a5 a6 a7 a8 a9 aa ab ac ad ae af => T1.rec (motive := fun _ => Tm) (fun b0 b1 b2 b3 b4 b5 b6 b7 b8 b9 ba bb bc bd be bf => .mk a0 a1 (.mk b0 b1 b2 b3 v b5 b6 b7 b8 b9 ba bb bc bd be bf) a3 a4 a5 a6 a7 a8 a9 aa ab ac ad ae af) a2) T
def s37 (T : Tm) (v : AV) : Tm := T2.rec (motive := fun _ => Tm) (fun a0 a1 a2 a3 a4 a5 a6 a7 a8 a9 aa ab ac ad ae af => T1.rec (motive := fun _ => Tm) (fun b0 b1 b2 b3 b4 b5 b6 b7 b8 b9 ba bb bc bd be bf => .mk a0 a1 (.mk b0 b1 b2 b3 b4 v b6 b7 b8 b9 ba bb bc bd be bf) a3 a4 a5 a6 a7 a8 a9 aa ab ac ad ae af) a2) T
def s38 (T : Tm) (v : AV) : Tm := T2.rec (motive := fun _ => Tm) (fun a0 a1 a2 a3 a4 a5 a6 a7 a8 a9 aa ab ac ad ae af => T1.rec (motive := fun _ => Tm) (fun b0 b1 b2 b3 b4 b5 b6 b7 b8 b9 ba bb bc bd be bf => .mk a0 a1 (.mk b0 b1 b2 b3 b4 b5 v b7 b8 b9 ba bb bc bd be bf) a3 a4 a5 a6 a7 a8 a9 aa ab ac ad ae af) a2) T
def s39 (T : Tm) (v : AV) : Tm := T2.rec (motive := fun _ => Tm) (fun a0 a1 a2 a3 a4 a5 a6 a7 a8 a9 aa ab ac ad ae af => T1.rec (motive := fun _ => Tm) (fun b0 b1 b2 b3 b4 b5 b6 b7 b8 b9 ba bb bc bd be bf => .mk a0 a1 (.mk b0 b1 b2 b3 b4 b5 b6 v b8 b9 ba bb bc bd be bf) a3 a4 a5 a6 a7 a8 a9 aa ab ac ad ae af) a2) T
def s40 (T : Tm) (v : AV) : Tm := T2.rec (motive := fun _ => Tm) (fun a0 a1 a2 a3 a4 a5 a6 a7 a8 a9 aa ab ac ad ae af => T1.rec (motive := fun _ => Tm) (fun b0 b1 b2 b3 b4 b5 b6 b7 b8 b9 ba bb bc bd be bf => .mk a0 a1 (.mk b0 b1 b2 b3 b4 b5 b6 b7 v b9 ba bb bc bd be bf) a3 a4 a5 a6 a7 a8 a9 aa ab ac ad ae af) a2) T
def s41 (T : Tm) (v : AV) : Tm := T2.rec (motive := fun _ => Tm) (fun a0 a1 a2 a3 a4 a5 a6 a7 a8 a9 aa ab ac ad ae af => T1.rec (motive := fun _ => Tm) (fun b0 b1 b2 b3 b4 b5 b6 b7 b8 b9 ba bb bc bd be bf => .mk a0 a1 (.mk b0 b1 b2 b3 b4 b5 b6 b7 b8 v ba bb bc bd be bf) a3 a4 a5 a6 a7 a8 a9 aa ab ac ad ae af) a2) T
def s42 (T : Tm) (v : AV) : Tm := T2.rec (motive := fun _ => Tm) (fun a0 a1 a2 a3 a4 a5 a6 a7 a8 a9 aa ab ac ad ae af => T1.rec (motive := fun _ => Tm) (fun b0 b1 b2 b3 b4 b5 b6 b7 b8 b9 ba bb bc bd be bf => .mk a0 a1 (.mk b0 b1 b2 b3 b4 b5 b6 b7 b8 b9 v bb bc bd be bf) a3 a4 a5 a6 a7 a8 a9 aa ab ac ad ae af) a2) T
def s43 (T : Tm) (v : AV) : Tm := T2.rec (motive := fun _ => Tm) (fun a0 a1 a2 a3 a4 a5 a6 a7 a8 a9 aa ab ac ad ae af => T1.rec (motive := fun _ => Tm) (fun b0 b1 b2 b3 b4 b5 b6 b7 b8 b9 ba bb bc bd be bf => .mk a0 a1 (.mk b0 b1 b2 b3 b4 b5 b6 b7 b8 b9 ba v bc bd be bf) a3 a4 a5 a6 a7 a8 a9 aa ab ac ad ae af) a2) T
def s44 (T : Tm) (v : AV) : Tm := T2.rec (motive := fun _ => Tm) (fun a0 a1 a2 a3 a4 a5 a6 a7 a8 a9 aa ab ac ad ae af => T1.rec (motive := fun _ => Tm) (fun b0 b1 b2 b3 b4 b5 b6 b7 b8 b9 ba bb bc bd be bf => .mk a0 a1 (.mk b0 b1 b2 b3 b4 b5 b6 b7 b8 b9 ba bb v bd be bf) a3 a4 a5 a6 a7 a8 a9 aa ab ac ad ae af) a2) T
def s45 (T : Tm) (v : AV) : Tm := T2.rec (motive := fun _ => Tm) (fun a0 a1 a2 a3 a4 a5 a6 a7 a8 a9 aa ab ac ad ae af => T1.rec (motive := fun _ => Tm) (fun b0 b1 b2 b3 b4 b5 b6 b7 b8 b9 ba bb bc bd be bf => .mk a0 a1 (.mk b0 b1 b2 b3 b4 b5 b6 b7 b8 b9 ba bb bc v be bf) a3 a4 a5 a6 a7 a8 a9 aa ab ac ad ae af) a2) T
def s46 (T : Tm) (v : AV) : Tm := T2.rec (motive := fun _ => Tm) (fun a0 a1 a2 a3 a4 a5 a6 a7 a8 a9 aa ab ac ad ae af => T1.rec (motive := fun _ => Tm) (fun b0 b1 b2 b3 b4 b5 b6 b7 b8 b9 ba bb bc bd be bf => .mk a0 a1 (.mk b0 b1 b2 b3 b4 b5 b6 b7 b8 b9 ba bb bc bd v bf) a3 a4 a5 a6 a7 a8 a9 aa ab ac ad ae af) a2) T
def s47 (T : Tm) (v : AV) : Tm := T2.rec (motive := fun _ => Tm) (fun a0 a1 a2 a3 a4 a5 a6 a7 a8 a9 aa ab ac ad ae af => T1.rec (motive := fun _ => Tm) (fun b0 b1 b2 b3 b4 b5 b6 b7 b8 b9 ba bb bc bd be bf => .mk a0 a1 (.mk b0 b1 b2 b3 b4 b5 b6 b7 b8 b9 ba bb bc bd be v) a3 a4 a5 a6 a7 a8 a9 aa ab ac ad ae af) a2) T
def s48 (T : Tm) (v : AV) : Tm := T2.rec (motive := fun _ => Tm) (fun a0 a1 a2 a3 a4 a5 a6 a7 a8 a9 aa ab ac ad ae af => T1.rec (motive := fun _ => Tm) (fun b0 b1 b2 b3 b4 b5 b6 b7 b8 b9 ba bb bc bd be bf => .mk a0 a1 a2 (.mk v b1 b2 b3 b4 b5 b6 b7 b8 b9 ba bb bc bd be bf) a4 a5 a6 a7 a8 a9 aa ab ac ad ae af) a3) T
def s49 (T : Tm) (v : AV) : Tm := T2.rec (motive := fun _ => Tm) (fun a0 a1 a2 a3 a4 a5 a6 a7 a8 a9 aa ab ac ad ae af => T1.rec (motive := fun _ => Tm) (fun b0 b1 b2 b3 b4 b5 b6 b7 b8 b9 ba bb bc bd be bf => .mk a0 a1 a2 (.mk b0 v b2 b3 b4 b5 b6 b7 b8 b9 ba bb bc bd be bf) a4 a5 a6 a7 a8 a9 aa ab ac ad ae af) a3) T
def s50 (T : Tm) (v : AV) : Tm := T2.rec (motive := fun _ => Tm) (fun a0 a1 a2 a3 a4 a5 a6 a7 a8 a9 aa ab ac ad ae af => T1.rec (motive := fun _ => Tm) (fun b0 b1 b2 b3 b4 b5 b6 b7 b8 b9 ba bb bc bd be bf => .mk a0 a1 a2 (.mk b0 b1 v b3 b4 b5 b6 b7 b8 b9 ba bb bc bd be bf) a4 a5 a6 a7 a8 a9 aa ab ac ad ae af) a3) T
def s51 (T : Tm) (v : AV) : Tm := T2.rec (motive := fun _ => Tm) (fun a0 a1 a2 a3 a4 a5 a6 a7 a8 a9 aa ab ac ad ae af => T1.rec (motive := fun _ => Tm) (fun b0 b1 b2 b3 b4 b5 b6 b7 b8 b9 ba bb bc bd be bf => .mk a0 a1 a2 (.mk b0 b1 b2 v b4 b5 b6 b7 b8 b9 ba bb bc bd be bf) a4 a5 a6 a7 a8 a9 aa ab ac ad ae af) a3) T
def s52 (T : Tm) (v : AV) : Tm := T2.rec (motive := fun _ => Tm) (fun a0 a1 a2 a3 a4 a5 a6 a7 a8 a9 aa ab ac ad ae af => T1.rec (motive := fun _ => Tm) (fun b0 b1 b2 b3 b4 b5 b6 b7 b8 b9 ba bb bc bd be bf => .mk a0 a1 a2 (.mk b0 b1 b2 b3 v b5 b6 b7 b8 b9 ba bb bc bd be bf) a4 a5 a6 a7 a8 a9 aa ab ac ad ae af) a3) T
def s53 (T : Tm) (v : AV) : Tm := T2.rec (motive := fun _ => Tm) (fun a0 a1 a2 a3 a4 a5 a6 a7 a8 a9 aa ab ac ad ae af => T1.rec (motive := fun _ => Tm) (fun b0 b1 b2 b3 b4 b5 b6 b7 b8 b9 ba bb bc bd be bf => .mk a0 a1 a2 (.mk b0 b1 b2 b3 b4 v b6 b7 b8 b9 ba bb bc bd be bf) a4 a5 a6 a7 a8 a9 aa ab ac ad ae af) a3) T
def s54 (T : Tm) (v : AV) : Tm := T2.rec (motive := fun _ => Tm) (fun a0 a1 a2 a3 a4 a5 a6 a7 a8 a9 aa ab ac ad ae af => T1.rec (motive := fun _ => Tm) (fun b0 b1 b2 b3 b4 b5 b6 b7 b8 b9 ba bb bc bd be bf => .mk a0 a1 a2 (.mk b0 b1 b2 b3 b4 b5 v b7 b8 b9 ba bb bc bd be bf) a4 a5 a6 a7 a8 a9 aa ab ac ad ae af) a3) T
def s55 (T : Tm) (v : AV) : Tm := T2.rec (motive := fun _ => Tm) (fun a0 a1 a2 a3 a4 a5 a6 a7 a8 a9 aa ab ac ad ae af => T1.rec (motive := fun _ => Tm) (fun b0 b1 b2 b3 b4 b5 b6 b7 b8 b9 ba bb bc bd be bf => .mk a0 a1 a2 (.mk b0 b1 b2 b3 b4 b5 b6 v b8 b9 ba bb bc bd be bf) a4 a5 a6 a7 a8 a9 aa ab ac ad ae af) a3) T
def s56 (T : Tm) (v : AV) : Tm := T2.rec (motive := fun _ => Tm) (fun a0 a1 a2 a3 a4 a5 a6 a7 a8 a9 aa ab ac ad ae af => T1.rec (motive := fun _ => Tm) (fun b0 b1 b2 b3 b4 b5 b6 b7 b8 b9 ba bb bc bd be bf => .mk a0 a1 a2 (.mk b0 b1 b2 b3 b4 b5 b6 b7 v b9 ba bb bc bd be bf) a4 a5 a6 a7 a8 a9 aa ab ac ad ae af) a3) T
def s57 (T : Tm) (v : AV) : Tm := T2.rec (motive := fun _ => Tm) (fun a0 a1 a2 a3 a4 a5 a6 a7 a8 a9 aa ab ac ad ae af => T1.rec (motive := fun _ => Tm) (fun b0 b1 b2 b3 b4 b5 b6 b7 b8 b9 ba bb bc bd be bf => .mk a0 a1 a2 (.mk b0 b1 b2 b3 b4 b5 b6 b7 b8 v ba bb bc bd be bf) a4 a5 a6 a7 a8 a9 aa ab ac ad ae af) a3) T
def s58 (T : Tm) (v : AV) : Tm := T2.rec (motive := fun _ => Tm) (fun a0 a1 a2 a3 a4 a5 a6 a7 a8 a9 aa ab ac ad ae af => T1.rec (motive := fun _ => Tm) (fun b0 b1 b2 b3 b4 b5 b6 b7 b8 b9 ba bb bc bd be bf => .mk a0 a1 a2 (.mk b0 b1 b2 b3 b4 b5 b6 b7 b8 b9 v bb bc bd be bf) a4 a5 a6 a7 a8 a9 aa ab ac ad ae af) a3) T
def s59 (T : Tm) (v : AV) : Tm := T2.rec (motive := fun _ => Tm) (fun a0 a1 a2 a3 a4 a5 a6 a7 a8 a9 aa ab ac ad ae af => T1.rec (motive := fun _ => Tm) (fun b0 b1 b2 b3 b4 b5 b6 b7 b8 b9 ba bb bc bd be bf => .mk a0 a1 a2 (.mk b0 b1 b2 b3 b4 b5 b6 b7 b8 b9 ba v bc bd be bf) a4 a5 a6 a7 a8 a9 aa ab ac ad ae af) a3) T
def s60 (T : Tm) (v : AV) : Tm := T2.rec (motive := fun _ => Tm) (fun a0 a1 a2 a3 a4 a5 a6 a7 a8 a9 aa ab ac ad ae af => T1.rec (motive := fun _ => Tm) (fun b0 b1 b2 b3 b4 b5 b6 b7 b8 b9 ba bb bc bd be bf => .mk a0 a1 a2 (.mk b0 b1 b2 b3 b4 b5 b6 b7 b8 b9 ba bb v bd be bf) a4 a5 a6 a7 a8 a9 aa ab ac ad ae af) a3) T
def s61 (T : Tm) (v : AV) : Tm := T2.rec (motive := fun _ => Tm) (fun a0 a1 a2 a3 a4 a5 a6 a7 a8 a9 aa ab ac ad ae af => T1.rec (motive := fun _ => Tm) (fun b0 b1 b2 b3 b4 b5 b6 b7 b8 b9 ba bb bc bd be bf => .mk a0 a1 a2 (.mk b0 b1 b2 b3 b4 b5 b6 b7 b8 b9 ba bb bc v be bf) a4 a5 a6 a7 a8 a9 aa ab ac ad ae af) a3) T
def s62 (T : Tm) (v : AV) : Tm := T2.rec (motive := fun _ => Tm) (fun a0 a1 a2 a3 a4 a5 a6 a7 a8 a9 aa ab ac ad ae af => T1.rec (motive := fun _ => Tm) (fun b0 b1 b2 b3 b4 b5 b6 b7 b8 b9 ba bb bc bd be bf => .mk a0 a1 a2 (.mk b0 b1 b2 b3 b4 b5 b6 b7 b8 b9 ba bb bc bd v bf) a4 a5 a6 a7 a8 a9 aa ab ac ad ae af) a3) T
def s63 (T : Tm) (v : AV) : Tm := T2.rec (motive := fun _ => Tm) (fun a0 a1 a2 a3 a4 a5 a6 a7 a8 a9 aa ab ac ad ae af => T1.rec (motive := fun _ => Tm) (fun b0 b1 b2 b3 b4 b5 b6 b7 b8 b9 ba bb bc bd be bf => .mk a0 a1 a2 (.mk b0 b1 b2 b3 b4 b5 b6 b7 b8 b9 ba bb bc bd be v) a4 a5 a6 a7 a8 a9 aa ab ac ad ae af) a3) T
def s64 (T : Tm) (v : AV) : Tm := T2.rec (motive := fun _ => Tm) (fun a0 a1 a2 a3 a4 a5 a6 a7 a8 a9 aa ab ac ad ae af => T1.rec (motive := fun _ => Tm) (fun b0 b1 b2 b3 b4 b5 b6 b7 b8 b9 ba bb bc bd be bf => .mk a0 a1 a2 a3 (.mk v b1 b2 b3 b4 b5 b6 b7 b8 b9 ba bb bc bd be bf) a5 a6 a7 a8 a9 aa ab ac ad ae af) a4) T
def s65 (T : Tm) (v : AV) : Tm := T2.rec (motive := fun _ => Tm) (fun a0 a1 a2 a3 a4 a5 a6 a7 a8 a9 aa ab ac ad ae af => T1.rec (motive := fun _ => Tm) (fun b0 b1 b2 b3 b4 b5 b6 b7 b8 b9 ba bb bc bd be bf => .mk a0 a1 a2 a3 (.mk b0 v b2 b3 b4 b5 b6 b7 b8 b9 ba bb bc bd be bf) a5 a6 a7 a8 a9 aa ab ac ad ae af) a4) T
def s66 (T : Tm) (v : AV) : Tm := T2.rec (motive := fun _ => Tm) (fun a0 a1 a2 a3 a4 a5 a6 a7 a8 a9 aa ab ac ad ae af => T1.rec (motive := fun _ => Tm) (fun b0 b1 b2 b3 b4 b5 b6 b7 b8 b9 ba bb bc bd be bf => .mk a0 a1 a2 a3 (.mk b0 b1 v b3 b4 b5 b6 b7 b8 b9 ba bb bc bd be bf) a5 a6 a7 a8 a9 aa ab ac ad ae af) a4) T
def s67 (T : Tm) (v : AV) : Tm := T2.rec (motive := fun _ => Tm) (fun a0 a1 a2 a3 a4 a5 a6 a7 a8 a9 aa ab ac ad ae af => T1.rec (motive := fun _ => Tm) (fun b0 b1 b2 b3 b4 b5 b6 b7 b8 b9 ba bb bc bd be bf => .mk a0 a1 a2 a3 (.mk b0 b1 b2 v b4 b5 b6 b7 b8 b9 ba bb bc bd be bf) a5 a6 a7 a8 a9 aa ab ac ad ae af) a4) T
def s68 (T : Tm) (v : AV) : Tm := T2.rec (motive := fun _ => Tm) (fun a0 a1 a2 a3 a4 a5 a6 a7 a8 a9 aa ab ac ad ae af => T1.rec (motive := fun _ => Tm) (fun b0 b1 b2 b3 b4 b5 b6 b7 b8 b9 ba bb bc bd be bf => .mk a0 a1 a2 a3 (.mk b0 b1 b2 b3 v b5 b6 b7 b8 b9 ba bb bc bd be bf) a5 a6 a7 a8 a9 aa ab ac ad ae af) a4) T
def s69 (T : Tm) (v : AV) : Tm := T2.rec (motive := fun _ => Tm) (fun a0 a1 a2 a3 a4 a5 a6 a7 a8 a9 aa ab ac ad ae af => T1.rec (motive := fun _ => Tm) (fun b0 b1 b2 b3 b4 b5 b6 b7 b8 b9 ba bb bc bd be bf => .mk a0 a1 a2 a3 (.mk b0 b1 b2 b3 b4 v b6 b7 b8 b9 ba bb bc bd be bf) a5 a6 a7 a8 a9 aa ab ac ad ae af) a4) T
def s70 (T : Tm) (v : AV) : Tm := T2.rec (motive := fun _ => Tm) (fun a0 a1 a2 a3 a4 a5 a6 a7 a8 a9 aa ab ac ad ae af => T1.rec (motive := fun _ => Tm) (fun b0 b1 b2 b3 b4 b5 b6 b7 b8 b9 ba bb bc bd be bf => .mk a0 a1 a2 a3 (.mk b0 b1 b2 b3 b4 b5 v b7 b8 b9 ba bb bc bd be bf) a5 a6 a7 a8 a9 aa ab ac ad ae af) a4) T
def s71 (T : Tm) (v : AV) : Tm := T2.rec (motive := fun _ => Tm) (fun a0 a1 a2 a3 a4 a5 a6 a7 a8 a9 aa ab ac ad ae af => T1.rec (motive := fun _ => Tm) (fun b0 b1 b2 b3 b4 b5 b6 b7 b8 b9 ba bb bc bd be bf => .mk a0 a1 a2 a3 (.mk b0 b1 b2 b3 b4 b5 b6 v b8 b9 ba bb bc bd be bf) a5 a6 a7 a8 a9 aa ab ac ad ae af) a4) T
def s72 (T : Tm) (v : AV) : Tm := T2.rec (motive := fun _ => Tm) (fun a0 a1 a2 a3 a4 a5 a6 a7 a8 a9 aa ab ac ad ae af => T1.rec (motive := fun _ => Tm) (fun b0 b1 b2 b3 b4 b5 b6 b7 b8 b9 ba bb bc bd be bf => .mk a0 a1 a2 a3 (.mk b0 b1 b2 b3 b4 b5 b6 b7 v b9 ba bb bc bd be bf) a5 a6 a7 a8 a9 aa ab ac ad ae af) a4) T
def s73 (T : Tm) (v : AV) : Tm := T2.rec (motive := fun _ => Tm) (fun a0 a1 a2 a3 a4 a5 a6 a7 a8 a9 aa ab ac ad ae af => T1.rec (motive := fun _ => Tm) (fun b0 b1 b2 b3 b4 b5 b6 b7 b8 b9 ba bb bc bd be bf => .mk a0 a1 a2 a3 (.mk b0 b1 b2 b3 b4 b5 b6 b7 b8 v ba bb bc bd be bf) a5 a6 a7 a8 a9 aa ab ac ad ae af) a4) T
def s74 (T : Tm) (v : AV) : Tm := T2.rec (motive := fun _ => Tm) (fun a0 a1 a2 a3 a4 a5 a6 a7 a8 a9 aa ab ac ad ae af => T1.rec (motive := fun _ => Tm) (fun b0 b1 b2 b3 b4 b5 b6 b7 b8 b9 ba bb bc bd be bf => .mk a0 a1 a2 a3 (.mk b0 b1 b2 b3 b4 b5 b6 b7 b8 b9 v bb bc bd be bf) a5 a6 a7 a8 a9 aa ab ac ad ae af) a4) T
def s75 (T : Tm) (v : AV) : Tm := T2.rec (motive := fun _ => Tm) (fun a0 a1 a2 a3 a4 a5 a6 a7 a8 a9 aa ab ac ad ae af => T1.rec (motive := fun _ => Tm) (fun b0 b1 b2 b3 b4 b5 b6 b7 b8 b9 ba bb bc bd be bf => .mk a0 a1 a2 a3 (.mk b0 b1 b2 b3 b4 b5 b6 b7 b8 b9 ba v bc bd be bf) a5 a6 a7 a8 a9 aa ab ac ad ae af) a4) T
def s76 (T : Tm) (v : AV) : Tm := T2.rec (motive := fun _ => Tm) (fun a0 a1 a2 a3 a4 a5 a6 a7 a8 a9 aa ab ac ad ae af => T1.rec (motive := fun _ => Tm) (fun b0 b1 b2 b3 b4 b5 b6 b7 b8 b9 ba bb bc bd be bf => .mk a0 a1 a2 a3 (.mk b0 b1 b2 b3 b4 b5 b6 b7 b8 b9 ba bb v bd be bf) a5 a6 a7 a8 a9 aa ab ac ad ae af) a4) T
def s77 (T : Tm) (v : AV) : Tm := T2.rec (motive := fun _ => Tm) (fun a0 a1 a2 a3 a4 a5 a6 a7 a8 a9 aa ab ac ad ae af => T1.rec (motive := fun _ => Tm) (fun b0 b1 b2 b3 b4 b5 b6 b7 b8 b9 ba bb bc bd be bf => .mk a0 a1 a2 a3 (.mk b0 b1 b2 b3 b4 b5 b6 b7 b8 b9 ba bb bc v be bf) a5 a6 a7 a8 a9 aa ab ac ad ae af) a4) T
def s78 (T : Tm) (v : AV) : Tm := T2.rec (motive := fun _ => Tm) (fun a0 a1 a2 a3 a4 a5 a6 a7 a8 a9 aa ab ac ad ae af => T1.rec (motive := fun _ => Tm) (fun b0 b1 b2 b3 b4 b5 b6 b7 b8 b9 ba bb bc bd be bf => .mk a0 a1 a2 a3 (.mk b0 b1 b2 b3 b4 b5 b6 b7 b8 b9 ba bb bc bd v bf) a5 a6 a7 a8 a9 aa ab ac ad ae af) a4) T
def s79 (T : Tm) (v : AV) : Tm := T2.rec (motive := fun _ => Tm) (fun a0 a1 a2 a3 a4 a5 a6 a7 a8 a9 aa ab ac ad ae af => T1.rec (motive := fun _ => Tm) (fun b0 b1 b2 b3 b4 b5 b6 b7 b8 b9 ba bb bc bd be bf => .mk a0 a1 a2 a3 (.mk b0 b1 b2 b3 b4 b5 b6 b7 b8 b9 ba bb bc bd be v) a5 a6 a7 a8 a9 aa ab ac ad ae af) a4) T
def s80 (T : Tm) (v : AV) : Tm := T2.rec (motive := fun _ => Tm) (fun a0 a1 a2 a3 a4 a5 a6 a7 a8 a9 aa ab ac ad ae af => T1.rec (motive := fun _ => Tm) (fun b0 b1 b2 b3 b4 b5 b6 b7 b8 b9 ba bb bc bd be bf => .mk a0 a1 a2 a3 a4 (.mk v b1 b2 b3 b4 b5 b6 b7 b8 b9 ba bb bc bd be bf) a6 a7 a8 a9 aa ab ac ad ae af) a5) T
def s81 (T : Tm) (v : AV) : Tm := T2.rec (motive := fun _ => Tm) (fun a0 a1 a2 a3 a4 a5 a6 a7 a8 a9 aa ab ac ad ae af => T1.rec (motive := fun _ => Tm) (fun b0 b1 b2 b3 b4 b5 b6 b7 b8 b9 ba bb bc bd be bf => .mk a0 a1 a2 a3 a4 (.mk b0 v b2 b3 b4 b5 b6 b7 b8 b9 ba bb bc bd be bf) a6 a7 a8 a9 aa ab ac ad ae af) a5) T
def s82 (T : Tm) (v : AV) : Tm := T2.rec (motive := fun _ => Tm) (fun a0 a1 a2 a3 a4 a5 a6 a7 a8 a9 aa ab ac ad ae af => T1.rec (motive := fun _ => Tm) (fun b0 b1 b2 b3 b4 b5 b6 b7 b8 b9 ba bb bc bd be bf => .mk a0 a1 a2 a3 a4 (.mk b0 b1 v b3 b4 b5 b6 b7 b8 b9 ba bb bc bd be bf) a6 a7 a8 a9 aa ab ac ad ae af) a5) T
def s83 (T : Tm) (v : AV) : Tm := T2.rec (motive := fun _ => Tm) (fun a0 a1 a2 a3 a4 a5 a6 a7 a8 a9 aa ab ac ad ae af => T1.rec (motive := fun _ => Tm) (fun b0 b1 b2 b3 b4 b5 b6 b7 b8 b9 ba bb bc bd be bf => .mk a0 a1 a2 a3 a4 (.mk b0 b1 b2 v b4 b5 b6 b7 b8 b9 ba bb bc bd be bf) a6 a7 a8 a9 aa ab ac ad ae af) a5) T
def s84 (T : Tm) (v : AV) : Tm := T2.rec (motive := fun _ => Tm) (fun a0 a1 a2 a3 a4 a5 a6 a7 a8 a9 aa ab ac ad ae af => T1.rec (motive := fun _ => Tm) (fun b0 b1 b2 b3 b4 b5 b6 b7 b8 b9 ba bb bc bd be bf => .mk a0 a1 a2 a3 a4 (.mk b0 b1 b2 b3 v b5 b6 b7 b8 b9 ba bb bc bd be bf) a6 a7 a8 a9 aa ab ac ad ae af) a5) T
def s85 (T : Tm) (v : AV) : Tm := T2.rec (motive := fun _ => Tm) (fun a0 a1 a2 a3 a4 a5 a6 a7 a8 a9 aa ab ac ad ae af => T1.rec (motive := fun _ => Tm) (fun b0 b1 b2 b3 b4 b5 b6 b7 b8 b9 ba bb bc bd be bf => .mk a0 a1 a2 a3 a4 (.mk b0 b1 b2 b3 b4 v b6 b7 b8 b9 ba bb bc bd be bf) a6 a7 a8 a9 aa ab ac ad ae af) a5) T
def s86 (T : Tm) (v : AV) : Tm := T2.rec (motive := fun _ => Tm) (fun a0 a1 a2 a3 a4 a5 a6 a7 a8 a9 aa ab ac ad ae af => T1.rec (motive := fun _ => Tm) (fun b0 b1 b2 b3 b4 b5 b6 b7 b8 b9 ba bb bc bd be bf => .mk a0 a1 a2 a3 a4 (.mk b0 b1 b2 b3 b4 b5 v b7 b8 b9 ba bb bc bd be bf) a6 a7 a8 a9 aa ab ac ad ae af) a5) T
def s87 (T : Tm) (v : AV) : Tm := T2.rec (motive := fun _ => Tm) (fun a0 a1 a2 a3 a4 a5 a6 a7 a8 a9 aa ab ac ad ae af => T1.rec (motive := fun _ => Tm) (fun b0 b1 b2 b3 b4 b5 b6 b7 b8 b9 ba bb bc bd be bf => .mk a0 a1 a2 a3 a4 (.mk b0 b1 b2 b3 b4 b5 b6 v b8 b9 ba bb bc bd be bf) a6 a7 a8 a9 aa ab ac ad ae af) a5) T
def s88 (T : Tm) (v : AV) : Tm := T2.rec (motive := fun _ => Tm) (fun a0 a1 a2 a3 a4 a5 a6 a7 a8 a9 aa ab ac ad ae af => T1.rec (motive := fun _ => Tm) (fun b0 b1 b2 b3 b4 b5 b6 b7 b8 b9 ba bb bc bd be bf => .mk a0 a1 a2 a3 a4 (.mk b0 b1 b2 b3 b4 b5 b6 b7 v b9 ba bb bc bd be bf) a6 a7 a8 a9 aa ab ac ad ae af) a5) T
def s89 (T : Tm) (v : AV) : Tm := T2.rec (motive := fun _ => Tm) (fun a0 a1 a2 a3 a4 a5 a6 a7 a8 a9 aa ab ac ad ae af => T1.rec (motive := fun _ => Tm) (fun b0 b1 b2 b3 b4 b5 b6 b7 b8 b9 ba bb bc bd be bf => .mk a0 a1 a2 a3 a4 (.mk b0 b1 b2 b3 b4 b5 b6 b7 b8 v ba bb bc bd be bf) a6 a7 a8 a9 aa ab ac ad ae af) a5) T
def s90 (T : Tm) (v : AV) : Tm := T2.rec (motive := fun _ => Tm) (fun a0 a1 a2 a3 a4 a5 a6 a7 a8 a9 aa ab ac ad ae af => T1.rec (motive := fun _ => Tm) (fun b0 b1 b2 b3 b4 b5 b6 b7 b8 b9 ba bb bc bd be bf => .mk a0 a1 a2 a3 a4 (.mk b0 b1 b2 b3 b4 b5 b6 b7 b8 b9 v bb bc bd be bf) a6 a7 a8 a9 aa ab ac ad ae af) a5) T
def s91 (T : Tm) (v : AV) : Tm := T2.rec (motive := fun _ => Tm) (fun a0 a1 a2 a3 a4 a5 a6 a7 a8 a9 aa ab ac ad ae af => T1.rec (motive := fun _ => Tm) (fun b0 b1 b2 b3 b4 b5 b6 b7 b8 b9 ba bb bc bd be bf => .mk a0 a1 a2 a3 a4 (.mk b0 b1 b2 b3 b4 b5 b6 b7 b8 b9 ba v bc bd be bf) a6 a7 a8 a9 aa ab ac ad ae af) a5) T
def s92 (T : Tm) (v : AV) : Tm := T2.rec (motive := fun _ => Tm) (fun a0 a1 a2 a3 a4 a5 a6 a7 a8 a9 aa ab ac ad ae af => T1.rec (motive := fun _ => Tm) (fun b0 b1 b2 b3 b4 b5 b6 b7 b8 b9 ba bb bc bd be bf => .mk a0 a1 a2 a3 a4 (.mk b0 b1 b2 b3 b4 b5 b6 b7 b8 b9 ba bb v bd be bf) a6 a7 a8 a9 aa ab ac ad ae af) a5) T
def s93 (T : Tm) (v : AV) : Tm := T2.rec (motive := fun _ => Tm) (fun a0 a1 a2 a3 a4 a5 a6 a7 a8 a9 aa ab ac ad ae af => T1.rec (motive := fun _ => Tm) (fun b0 b1 b2 b3 b4 b5 b6 b7 b8 b9 ba bb bc bd be bf => .mk a0 a1 a2 a3 a4 (.mk b0 b1 b2 b3 b4 b5 b6 b7 b8 b9 ba bb bc v be bf) a6 a7 a8 a9 aa ab ac ad ae af) a5) T
def s94 (T : Tm) (v : AV) : Tm := T2.rec (motive := fun _ => Tm) (fun a0 a1 a2 a3 a4 a5 a6 a7 a8 a9 aa ab ac ad ae af => T1.rec (motive := fun _ => Tm) (fun b0 b1 b2 b3 b4 b5 b6 b7 b8 b9 ba bb bc bd be bf => .mk a0 a1 a2 a3 a4 (.mk b0 b1 b2 b3 b4 b5 b6 b7 b8 b9 ba bb bc bd v bf) a6 a7 a8 a9 aa ab ac ad ae af) a5) T
def s95 (T : Tm) (v : AV) : Tm := T2.rec (motive := fun _ => Tm) (fun a0 a1 a2 a3 a4 a5 a6 a7 a8 a9 aa ab ac ad ae af => T1.rec (motive := fun _ => Tm) (fun b0 b1 b2 b3 b4 b5 b6 b7 b8 b9 ba bb bc bd be bf => .mk a0 a1 a2 a3 a4 (.mk b0 b1 b2 b3 b4 b5 b6 b7 b8 b9 ba bb bc bd be v) a6 a7 a8 a9 aa ab ac ad ae af) a5) T
def s96 (T : Tm) (v : AV) : Tm := T2.rec (motive := fun _ => Tm) (fun a0 a1 a2 a3 a4 a5 a6 a7 a8 a9 aa ab ac ad ae af => T1.rec (motive := fun _ => Tm) (fun b0 b1 b2 b3 b4 b5 b6 b7 b8 b9 ba bb bc bd be bf => .mk a0 a1 a2 a3 a4 a5 (.mk v b1 b2 b3 b4 b5 b6 b7 b8 b9 ba bb bc bd be bf) a7 a8 a9 aa ab ac ad ae af) a6) T
def s97 (T : Tm) (v : AV) : Tm := T2.rec (motive := fun _ => Tm) (fun a0 a1 a2 a3 a4 a5 a6 a7 a8 a9 aa ab ac ad ae af => T1.rec (motive := fun _ => Tm) (fun b0 b1 b2 b3 b4 b5 b6 b7 b8 b9 ba bb bc bd be bf => .mk a0 a1 a2 a3 a4 a5 (.mk b0 v b2 b3 b4 b5 b6 b7 b8 b9 ba bb bc bd be bf) a7 a8 a9 aa ab ac ad ae af) a6) T
def s98 (T : Tm) (v : AV) : Tm := T2.rec (motive := fun _ => Tm) (fun a0 a1 a2 a3 a4 a5 a6 a7 a8 a9 aa ab ac ad ae af => T1.rec (motive := fun _ => Tm) (fun b0 b1 b2 b3 b4 b5 b6 b7 b8 b9 ba bb bc bd be bf => .mk a0 a1 a2 a3 a4 a5 (.mk b0 b1 v b3 b4 b5 b6 b7 b8 b9 ba bb bc bd be bf) a7 a8 a9 aa ab ac ad ae af) a6) T
def s99 (T : Tm) (v : AV) : Tm := T2.rec (motive := fun _ => Tm) (fun a0 a1 a2 a3 a4 a5 a6 a7 a8 a9 aa ab ac ad ae af => T1.rec (motive := fun _ => Tm) (fun b0 b1 b2 b3 b4 b5 b6 b7 b8 b9 ba bb bc bd be bf => .mk a0 a1 a2 a3 a4 a5 (.mk b0 b1 b2 v b4 b5 b6 b7 b8 b9 ba bb bc bd be bf) a7 a8 a9 aa ab ac ad ae af) a6) T
def s100 (T : Tm) (v : AV) : Tm := T2.rec (motive := fun _ => Tm) (fun a0 a1 a2 a3 a4 a5 a6 a7 a8 a9 aa ab ac ad ae af => T1.rec (motive := fun _ => Tm) (fun b0 b1 b2 b3 b4 b5 b6 b7 b8 b9 ba bb bc bd be bf => .mk a0 a1 a2 a3 a4 a5 (.mk b0 b1 b2 b3 v b5 b6 b7 b8 b9 ba bb bc bd be bf) a7 a8 a9 aa ab ac ad ae af) a6) T
def s101 (T : Tm) (v : AV) : Tm := T2.rec (motive := fun _ => Tm) (fun a0 a1 a2 a3 a4 a5 a6 a7 a8 a9 aa ab ac ad ae af => T1.rec (motive := fun _ => Tm) (fun b0 b1 b2 b3 b4 b5 b6 b7 b8 b9 ba bb bc bd be bf => .mk a0 a1 a2 a3 a4 a5 (.mk b0 b1 b2 b3 b4 v b6 b7 b8 b9 ba bb bc bd be bf) a7 a8 a9 aa ab ac ad ae af) a6) T
def s102 (T : Tm) (v : AV) : Tm := T2.rec (motive := fun _ => Tm) (fun a0 a1 a2 a3 a4 a5 a6 a7 a8 a9 aa ab ac ad ae af => T1.rec (motive := fun _ => Tm) (fun b0 b1 b2 b3 b4 b5 b6 b7 b8 b9 ba bb bc bd be bf => .mk a0 a1 a2 a3 a4 a5 (.mk b0 b1 b2 b3 b4 b5 v b7 b8 b9 ba bb bc bd be bf) a7 a8 a9 aa ab ac ad ae af) a6) T
def s103 (T : Tm) (v : AV) : Tm := T2.rec (motive := fun _ => Tm) (fun a0 a1 a2 a3 a4 a5 a6 a7 a8 a9 aa ab ac ad ae af => T1.rec (motive := fun _ => Tm) (fun b0 b1 b2 b3 b4 b5 b6 b7 b8 b9 ba bb bc bd be bf => .mk a0 a1 a2 a3 a4 a5 (.mk b0 b1 b2 b3 b4 b5 b6 v b8 b9 ba bb bc bd be bf) a7 a8 a9 aa ab ac ad ae af) a6) T
def s104 (T : Tm) (v : AV) : Tm := T2.rec (motive := fun _ => Tm) (fun a0 a1 a2 a3 a4 a5 a6 a7 a8 a9 aa ab ac ad ae af => T1.rec (motive := fun _ => Tm) (fun b0 b1 b2 b3 b4 b5 b6 b7 b8 b9 ba bb bc bd be bf => .mk a0 a1 a2 a3 a4 a5 (.mk b0 b1 b2 b3 b4 b5 b6 b7 v b9 ba bb bc bd be bf) a7 a8 a9 aa ab ac ad ae af) a6) T
def s105 (T : Tm) (v : AV) : Tm := T2.rec (motive := fun _ => Tm) (fun a0 a1 a2 a3 a4 a5 a6 a7 a8 a9 aa ab ac ad ae af => T1.rec (motive := fun _ => Tm) (fun b0 b1 b2 b3 b4 b5 b6 b7 b8 b9 ba bb bc bd be bf => .mk a0 a1 a2 a3 a4 a5 (.mk b0 b1 b2 b3 b4 b5 b6 b7 b8 v ba bb bc bd be bf) a7 a8 a9 aa ab ac ad ae af) a6) T
def s106 (T : Tm) (v : AV) : Tm := T2.rec (motive := fun _ => Tm) (fun a0 a1 a2 a3 a4 a5 a6 a7 a8 a9 aa ab ac ad ae af => T1.rec (motive := fun _ => Tm) (fun b0 b1 b2 b3 b4 b5 b6 b7 b8 b9 ba bb bc bd be bf => .mk a0 a1 a2 a3 a4 a5 (.mk b0 b1 b2 b3 b4 b5 b6 b7 b8 b9 v bb bc bd be bf) a7 a8 a9 aa ab ac ad ae af) a6) T
def s107 (T : Tm) (v : AV) : Tm := T2.rec (motive := fun _ => Tm) (fun a0 a1 a2 a3 a4 a5 a6 a7 a8 a9 aa ab ac ad ae af => T1.rec (motive := fun _ => Tm) (fun b0 b1 b2 b3 b4 b5 b6 b7 b8 b9 ba bb bc bd be bf => .mk a0 a1 a2 a3 a4 a5 (.mk b0 b1 b2 b3 b4 b5 b6 b7 b8 b9 ba v bc bd be bf) a7 a8 a9 aa ab ac ad ae af) a6) T
def s108 (T : Tm) (v : AV) : Tm := T2.rec (motive := fun _ => Tm) (fun a0 a1 a2 a3 a4 a5 a6 a7 a8 a9 aa ab ac ad ae af => T1.rec (motive := fun _ => Tm) (fun b0 b1 b2 b3 b4 b5 b6 b7 b8 b9 ba bb bc bd be bf => .mk a0 a1 a2 a3 a4 a5 (.mk b0 b1 b2 b3 b4 b5 b6 b7 b8 b9 ba bb v bd be bf) a7 a8 a9 aa ab ac ad ae af) a6) T
def s109 (T : Tm) (v : AV) : Tm := T2.rec (motive := fun _ => Tm) (fun a0 a1 a2 a3 a4 a5 a6 a7 a8 a9 aa ab ac ad ae af => T1.rec (motive := fun _ => Tm) (fun b0 b1 b2 b3 b4 b5 b6 b7 b8 b9 ba bb bc bd be bf => .mk a0 a1 a2 a3 a4 a5 (.mk b0 b1 b2 b3 b4 b5 b6 b7 b8 b9 ba bb bc v be bf) a7 a8 a9 aa ab ac ad ae af) a6) T
def s110 (T : Tm) (v : AV) : Tm := T2.rec (motive := fun _ => Tm) (fun a0 a1 a2 a3 a4 a5 a6 a7 a8 a9 aa ab ac ad ae af => T1.rec (motive := fun _ => Tm) (fun b0 b1 b2 b3 b4 b5 b6 b7 b8 b9 ba bb bc bd be bf => .mk a0 a1 a2 a3 a4 a5 (.mk b0 b1 b2 b3 b4 b5 b6 b7 b8 b9 ba bb bc bd v bf) a7 a8 a9 aa ab ac ad ae af) a6) T
def s111 (T : Tm) (v : AV) : Tm := T2.rec (motive := fun _ => Tm) (fun a0 a1 a2 a3 a4 a5 a6 a7 a8 a9 aa ab ac ad ae af => T1.rec (motive := fun _ => Tm) (fun b0 b1 b2 b3 b4 b5 b6 b7 b8 b9 ba bb bc bd be bf => .mk a0 a1 a2 a3 a4 a5 (.mk b0 b1 b2 b3 b4 b5 b6 b7 b8 b9 ba bb bc bd be v) a7 a8 a9 aa ab ac ad ae af) a6) T
def s112 (T : Tm) (v : AV) : Tm := T2.rec (motive := fun _ => Tm) (fun a0 a1 a2 a3 a4 a5 a6 a7 a8 a9 aa ab ac ad ae af => T1.rec (motive := fun _ => Tm) (fun b0 b1 b2 b3 b4 b5 b6 b7 b8 b9 ba bb bc bd be bf => .mk a0 a1 a2 a3 a4 a5 a6 (.mk v b1 b2 b3 b4 b5 b6 b7 b8 b9 ba bb bc bd be bf) a8 a9 aa ab ac ad ae af) a7) T
def s113 (T : Tm) (v : AV) : Tm := T2.rec (motive := fun _ => Tm) (fun a0 a1 a2 a3 a4 a5 a6 a7 a8 a9 aa ab ac ad ae af => T1.rec (motive := fun _ => Tm) (fun b0 b1 b2 b3 b4 b5 b6 b7 b8 b9 ba bb bc bd be bf => .mk a0 a1 a2 a3 a4 a5 a6 (.mk b0 v b2 b3 b4 b5 b6 b7 b8 b9 ba bb bc bd be bf) a8 a9 aa ab ac ad ae af) a7) T
def s114 (T : Tm) (v : AV) : Tm := T2.rec (motive := fun _ => Tm) (fun a0 a1 a2 a3 a4 a5 a6 a7 a8 a9 aa ab ac ad ae af => T1.rec (motive := fun _ => Tm) (fun b0 b1 b2 b3 b4 b5 b6 b7 b8 b9 ba bb bc bd be bf => .mk a0 a1 a2 a3 a4 a5 a6 (.mk b0 b1 v b3 b4 b5 b6 b7 b8 b9 ba bb bc bd be bf) a8 a9 aa ab ac ad ae af) a7) T
def s115 (T : Tm) (v : AV) : Tm := T2.rec (motive := fun _ => Tm) (fun a0 a1 a2 a3 a4 a5 a6 a7 a8 a9 aa ab ac ad ae af => T1.rec (motive := fun _ => Tm) (fun b0 b1 b2 b3 b4 b5 b6 b7 b8 b9 ba bb bc bd be bf => .mk a0 a1 a2 a3 a4 a5 a6 (.mk b0 b1 b2 v b4 b5 b6 b7 b8 b9 ba bb bc bd be bf) a8 a9 aa ab ac ad ae af) a7) T
def s116 (T : Tm) (v : AV) : Tm := T2.rec (motive := fun _ => Tm) (fun a0 a1 a2 a3 a4 a5 a6 a7 a8 a9 aa ab ac ad ae af => T1.rec (motive := fun _ => Tm) (fun b0 b1 b2 b3 b4 b5 b6 b7 b8 b9 ba bb bc bd be bf => .mk a0 a1 a2 a3 a4 a5 a6 (.mk b0 b1 b2 b3 v b5 b6 b7 b8 b9 ba bb bc bd be bf) a8 a9 aa ab ac ad ae af) a7) T
def s117 (T : Tm) (v : AV) : Tm := T2.rec (motive := fun _ => Tm) (fun a0 a1 a2 a3 a4 a5 a6 a7 a8 a9 aa ab ac ad ae af => T1.rec (motive := fun _ => Tm) (fun b0 b1 b2 b3 b4 b5 b6 b7 b8 b9 ba bb bc bd be bf => .mk a0 a1 a2 a3 a4 a5 a6 (.mk b0 b1 b2 b3 b4 v b6 b7 b8 b9 ba bb bc bd be bf) a8 a9 aa ab ac ad ae af) a7) T
def s118 (T : Tm) (v : AV) : Tm := T2.rec (motive := fun _ => Tm) (fun a0 a1 a2 a3 a4 a5 a6 a7 a8 a9 aa ab ac ad ae af => T1.rec (motive := fun _ => Tm) (fun b0 b1 b2 b3 b4 b5 b6 b7 b8 b9 ba bb bc bd be bf => .mk a0 a1 a2 a3 a4 a5 a6 (.mk b0 b1 b2 b3 b4 b5 v b7 b8 b9 ba bb bc bd be bf) a8 a9 aa ab ac ad ae af) a7) T
def s119 (T : Tm) (v : AV) : Tm := T2.rec (motive := fun _ => Tm) (fun a0 a1 a2 a3 a4 a5 a6 a7 a8 a9 aa ab ac ad ae af => T1.rec (motive := fun _ => Tm) (fun b0 b1 b2 b3 b4 b5 b6 b7 b8 b9 ba bb bc bd be bf => .mk a0 a1 a2 a3 a4 a5 a6 (.mk b0 b1 b2 b3 b4 b5 b6 v b8 b9 ba bb bc bd be bf) a8 a9 aa ab ac ad ae af) a7) T
def s120 (T : Tm) (v : AV) : Tm := T2.rec (motive := fun _ => Tm) (fun a0 a1 a2 a3 a4 a5 a6 a7 a8 a9 aa ab ac ad ae af => T1.rec (motive := fun _ => Tm) (fun b0 b1 b2 b3 b4 b5 b6 b7 b8 b9 ba bb bc bd be bf => .mk a0 a1 a2 a3 a4 a5 a6 (.mk b0 b1 b2 b3 b4 b5 b6 b7 v b9 ba bb bc bd be bf) a8 a9 aa ab ac ad ae af) a7) T
def s121 (T : Tm) (v : AV) : Tm := T2.rec (motive := fun _ => Tm) (fun a0 a1 a2 a3 a4 a5 a6 a7 a8 a9 aa ab ac ad ae af => T1.rec (motive := fun _ => Tm) (fun b0 b1 b2 b3 b4 b5 b6 b7 b8 b9 ba bb bc bd be bf => .mk a0 a1 a2 a3 a4 a5 a6 (.mk b0 b1 b2 b3 b4 b5 b6 b7 b8 v ba bb bc bd be bf) a8 a9 aa ab ac ad ae af) a7) T
def s122 (T : Tm) (v : AV) : Tm := T2.rec (motive := fun _ => Tm) (fun a0 a1 a2 a3 a4 a5 a6 a7 a8 a9 aa ab ac ad ae af => T1.rec (motive := fun _ => Tm) (fun b0 b1 b2 b3 b4 b5 b6 b7 b8 b9 ba bb bc bd be bf => .mk a0 a1 a2 a3 a4 a5 a6 (.mk b0 b1 b2 b3 b4 b5 b6 b7 b8 b9 v bb bc bd be bf) a8 a9 aa ab ac ad ae af) a7) T
def s123 (T : Tm) (v : AV) : Tm := T2.rec (motive := fun _ => Tm) (fun a0 a1 a2 a3 a4 a5 a6 a7 a8 a9 aa ab ac ad ae af => T1.rec (motive := fun _ => Tm) (fun b0 b1 b2 b3 b4 b5 b6 b7 b8 b9 ba bb bc bd be bf => .mk a0 a1 a2 a3 a4 a5 a6 (.mk b0 b1 b2 b3 b4 b5 b6 b7 b8 b9 ba v bc bd be bf) a8 a9 aa ab ac ad ae af) a7) T
def s124 (T : Tm) (v : AV) : Tm := T2.rec (motive := fun _ => Tm) (fun a0 a1 a2 a3 a4 a5 a6 a7 a8 a9 aa ab ac ad ae af => T1.rec (motive := fun _ => Tm) (fun b0 b1 b2 b3 b4 b5 b6 b7 b8 b9 ba bb bc bd be bf => .mk a0 a1 a2 a3 a4 a5 a6 (.mk b0 b1 b2 b3 b4 b5 b6 b7 b8 b9 ba bb v bd be bf) a8 a9 aa ab ac ad ae af) a7) T
def s125 (T : Tm) (v : AV) : Tm := T2.rec (motive := fun _ => Tm) (fun a0 a1 a2 a3 a4 a5 a6 a7 a8 a9 aa ab ac ad ae af => T1.rec (motive := fun _ => Tm) (fun b0 b1 b2 b3 b4 b5 b6 b7 b8 b9 ba bb bc bd be bf => .mk a0 a1 a2 a3 a4 a5 a6 (.mk b0 b1 b2 b3 b4 b5 b6 b7 b8 b9 ba bb bc v be bf) a8 a9 aa ab ac ad ae af) a7) T
def s126 (T : Tm) (v : AV) : Tm := T2.rec (motive := fun _ => Tm) (fun a0 a1 a2 a3 a4 a5 a6 a7 a8 a9 aa ab ac ad ae af => T1.rec (motive := fun _ => Tm) (fun b0 b1 b2 b3 b4 b5 b6 b7 b8 b9 ba bb bc bd be bf => .mk a0 a1 a2 a3 a4 a5 a6 (.mk b0 b1 b2 b3 b4 b5 b6 b7 b8 b9 ba bb bc bd v bf) a8 a9 aa ab ac ad ae af) a7) T
def s127 (T : Tm) (v : AV) : Tm := T2.rec (motive := fun _ => Tm) (fun a0 a1 a2 a3 a4 a5 a6 a7 a8 a9 aa ab ac ad ae af => T1.rec (motive := fun _ => Tm) (fun b0 b1 b2 b3 b4 b5 b6 b7 b8 b9 ba bb bc bd be bf => .mk a0 a1 a2 a3 a4 a5 a6 (.mk b0 b1 b2 b3 b4 b5 b6 b7 b8 b9 ba bb bc bd be v) a8 a9 aa ab ac ad ae af) a7) T
def s128 (T : Tm) (v : AV) : Tm := T2.rec (motive := fun _ => Tm) (fun a0 a1 a2 a3 a4 a5 a6 a7 a8 a9 aa ab ac ad ae af => T1.rec (motive := fun _ => Tm) (fun b0 b1 b2 b3 b4 b5 b6 b7 b8 b9 ba bb bc bd be bf => .mk a0 a1 a2 a3 a4 a5 a6 a7 (.mk v b1 b2 b3 b4 b5 b6 b7 b8 b9 ba bb bc bd be bf) a9 aa ab ac ad ae af) a8) T
def s129 (T : Tm) (v : AV) : Tm := T2.rec (motive := fun _ => Tm) (fun a0 a1 a2 a3 a4 a5 a6 a7 a8 a9 aa ab ac ad ae af => T1.rec (motive := fun _ => Tm) (fun b0 b1 b2 b3 b4 b5 b6 b7 b8 b9 ba bb bc bd be bf => .mk a0 a1 a2 a3 a4 a5 a6 a7 (.mk b0 v b2 b3 b4 b5 b6 b7 b8 b9 ba bb bc bd be bf) a9 aa ab ac ad ae af) a8) T
def s130 (T : Tm) (v : AV) : Tm := T2.rec (motive := fun _ => Tm) (fun a0 a1 a2 a3 a4 a5 a6 a7 a8 a9 aa ab ac ad ae af => T1.rec (motive := fun _ => Tm) (fun b0 b1 b2 b3 b4 b5 b6 b7 b8 b9 ba bb bc bd be bf => .mk a0 a1 a2 a3 a4 a5 a6 a7 (.mk b0 b1 v b3 b4 b5 b6 b7 b8 b9 ba bb bc bd be bf) a9 aa ab ac ad ae af) a8) T
def s131 (T : Tm) (v : AV) : Tm := T2.rec (motive := fun _ => Tm) (fun a0 a1 a2 a3 a4 a5 a6 a7 a8 a9 aa ab ac ad ae af => T1.rec (motive := fun _ => Tm) (fun b0 b1 b2 b3 b4 b5 b6 b7 b8 b9 ba bb bc bd be bf => .mk a0 a1 a2 a3 a4 a5 a6 a7 (.mk b0 b1 b2 v b4 b5 b6 b7 b8 b9 ba bb bc bd be bf) a9 aa ab ac ad ae af) a8) T
def s132 (T : Tm) (v : AV) : Tm := T2.rec (motive := fun _ => Tm) (fun a0 a1 a2 a3 a4 a5 a6 a7 a8 a9 aa ab ac ad ae af => T1.rec (motive := fun _ => Tm) (fun b0 b1 b2 b3 b4 b5 b6 b7 b8 b9 ba bb bc bd be bf => .mk a0 a1 a2 a3 a4 a5 a6 a7 (.mk b0 b1 b2 b3 v b5 b6 b7 b8 b9 ba bb bc bd be bf) a9 aa ab ac ad ae af) a8) T
def s133 (T : Tm) (v : AV) : Tm := T2.rec (motive := fun _ => Tm) (fun a0 a1 a2 a3 a4 a5 a6 a7 a8 a9 aa ab ac ad ae af => T1.rec (motive := fun _ => Tm) (fun b0 b1 b2 b3 b4 b5 b6 b7 b8 b9 ba bb bc bd be bf => .mk a0 a1 a2 a3 a4 a5 a6 a7 (.mk b0 b1 b2 b3 b4 v b6 b7 b8 b9 ba bb bc bd be bf) a9 aa ab ac ad ae af) a8) T
def s134 (T : Tm) (v : AV) : Tm := T2.rec (motive := fun _ => Tm) (fun a0 a1 a2 a3 a4 a5 a6 a7 a8 a9 aa ab ac ad ae af => T1.rec (motive := fun _ => Tm) (fun b0 b1 b2 b3 b4 b5 b6 b7 b8 b9 ba bb bc bd be bf => .mk a0 a1 a2 a3 a4 a5 a6 a7 (.mk b0 b1 b2 b3 b4 b5 v b7 b8 b9 ba bb bc bd be bf) a9 aa ab ac ad ae af) a8) T
def s135 (T : Tm) (v : AV) : Tm := T2.rec (motive := fun _ => Tm) (fun a0 a1 a2 a3 a4 a5 a6 a7 a8 a9 aa ab ac ad ae af => T1.rec (motive := fun _ => Tm) (fun b0 b1 b2 b3 b4 b5 b6 b7 b8 b9 ba bb bc bd be bf => .mk a0 a1 a2 a3 a4 a5 a6 a7 (.mk b0 b1 b2 b3 b4 b5 b6 v b8 b9 ba bb bc bd be bf) a9 aa ab ac ad ae af) a8) T
def s136 (T : Tm) (v : AV) : Tm := T2.rec (motive := fun _ => Tm) (fun a0 a1 a2 a3 a4 a5 a6 a7 a8 a9 aa ab ac ad ae af => T1.rec (motive := fun _ => Tm) (fun b0 b1 b2 b3 b4 b5 b6 b7 b8 b9 ba bb bc bd be bf => .mk a0 a1 a2 a3 a4 a5 a6 a7 (.mk b0 b1 b2 b3 b4 b5 b6 b7 v b9 ba bb bc bd be bf) a9 aa ab ac ad ae af) a8) T
def s137 (T : Tm) (v : AV) : Tm := T2.rec (motive := fun _ => Tm) (fun a0 a1 a2 a3 a4 a5 a6 a7 a8 a9 aa ab ac ad ae af => T1.rec (motive := fun _ => Tm) (fun b0 b1 b2 b3 b4 b5 b6 b7 b8 b9 ba bb bc bd be bf => .mk a0 a1 a2 a3 a4 a5 a6 a7 (.mk b0 b1 b2 b3 b4 b5 b6 b7 b8 v ba bb bc bd be bf) a9 aa ab ac ad ae af) a8) T
def s138 (T : Tm) (v : AV) : Tm := T2.rec (motive := fun _ => Tm) (fun a0 a1 a2 a3 a4 a5 a6 a7 a8 a9 aa ab ac ad ae af => T1.rec (motive := fun _ => Tm) (fun b0 b1 b2 b3 b4 b5 b6 b7 b8 b9 ba bb bc bd be bf => .mk a0 a1 a2 a3 a4 a5 a6 a7 (.mk b0 b1 b2 b3 b4 b5 b6 b7 b8 b9 v bb bc bd be bf) a9 aa ab ac ad ae af) a8) T
def s139 (T : Tm) (v : AV) : Tm := T2.rec (motive := fun _ => Tm) (fun a0 a1 a2 a3 a4 a5 a6 a7 a8 a9 aa ab ac ad ae af => T1.rec (motive := fun _ => Tm) (fun b0 b1 b2 b3 b4 b5 b6 b7 b8 b9 ba bb bc bd be bf => .mk a0 a1 a2 a3 a4 a5 a6 a7 (.mk b0 b1 b2 b3 b4 b5 b6 b7 b8 b9 ba v bc bd be bf) a9 aa ab ac ad ae af) a8) T
def s140 (T : Tm) (v : AV) : Tm := T2.rec (motive := fun _ => Tm) (fun a0 a1 a2 a3 a4 a5 a6 a7 a8 a9 aa ab ac ad ae af => T1.rec (motive := fun _ => Tm) (fun b0 b1 b2 b3 b4 b5 b6 b7 b8 b9 ba bb bc bd be bf => .mk a0 a1 a2 a3 a4 a5 a6 a7 (.mk b0 b1 b2 b3 b4 b5 b6 b7 b8 b9 ba bb v bd be bf) a9 aa ab ac ad ae af) a8) T
def s141 (T : Tm) (v : AV) : Tm := T2.rec (motive := fun _ => Tm) (fun a0 a1 a2 a3 a4 a5 a6 a7 a8 a9 aa ab ac ad ae af => T1.rec (motive := fun _ => Tm) (fun b0 b1 b2 b3 b4 b5 b6 b7 b8 b9 ba bb bc bd be bf => .mk a0 a1 a2 a3 a4 a5 a6 a7 (.mk b0 b1 b2 b3 b4 b5 b6 b7 b8 b9 ba bb bc v be bf) a9 aa ab ac ad ae af) a8) T
def s142 (T : Tm) (v : AV) : Tm := T2.rec (motive := fun _ => Tm) (fun a0 a1 a2 a3 a4 a5 a6 a7 a8 a9 aa ab ac ad ae af => T1.rec (motive := fun _ => Tm) (fun b0 b1 b2 b3 b4 b5 b6 b7 b8 b9 ba bb bc bd be bf => .mk a0 a1 a2 a3 a4 a5 a6 a7 (.mk b0 b1 b2 b3 b4 b5 b6 b7 b8 b9 ba bb bc bd v bf) a9 aa ab ac ad ae af) a8) T
def s143 (T : Tm) (v : AV) : Tm := T2.rec (motive := fun _ => Tm) (fun a0 a1 a2 a3 a4 a5 a6 a7 a8 a9 aa ab ac ad ae af => T1.rec (motive := fun _ => Tm) (fun b0 b1 b2 b3 b4 b5 b6 b7 b8 b9 ba bb bc bd be bf => .mk a0 a1 a2 a3 a4 a5 a6 a7 (.mk b0 b1 b2 b3 b4 b5 b6 b7 b8 b9 ba bb bc bd be v) a9 aa ab ac ad ae af) a8) T
def s144 (T : Tm) (v : AV) : Tm := T2.rec (motive := fun _ => Tm) (fun a0 a1 a2 a3 a4 a5 a6 a7 a8 a9 aa ab ac ad ae af => T1.rec (motive := fun _ => Tm) (fun b0 b1 b2 b3 b4 b5 b6 b7 b8 b9 ba bb bc bd be bf => .mk a0 a1 a2 a3 a4 a5 a6 a7 a8 (.mk v b1 b2 b3 b4 b5 b6 b7 b8 b9 ba bb bc bd be bf) aa ab ac ad ae af) a9) T
def s145 (T : Tm) (v : AV) : Tm := T2.rec (motive := fun _ => Tm) (fun a0 a1 a2 a3 a4 a5 a6 a7 a8 a9 aa ab ac ad ae af => T1.rec (motive := fun _ => Tm) (fun b0 b1 b2 b3 b4 b5 b6 b7 b8 b9 ba bb bc bd be bf => .mk a0 a1 a2 a3 a4 a5 a6 a7 a8 (.mk b0 v b2 b3 b4 b5 b6 b7 b8 b9 ba bb bc bd be bf) aa ab ac ad ae af) a9) T
def s146 (T : Tm) (v : AV) : Tm := T2.rec (motive := fun _ => Tm) (fun a0 a1 a2 a3 a4 a5 a6 a7 a8 a9 aa ab ac ad ae af => T1.rec (motive := fun _ => Tm) (fun b0 b1 b2 b3 b4 b5 b6 b7 b8 b9 ba bb bc bd be bf => .mk a0 a1 a2 a3 a4 a5 a6 a7 a8 (.mk b0 b1 v b3 b4 b5 b6 b7 b8 b9 ba bb bc bd be bf) aa ab ac ad ae af) a9) T
def s147 (T : Tm) (v : AV) : Tm := T2.rec (motive := fun _ => Tm) (fun a0 a1 a2 a3 a4 a5 a6 a7 a8 a9 aa ab ac ad ae af => T1.rec (motive := fun _ => Tm) (fun b0 b1 b2 b3 b4 b5 b6 b7 b8 b9 ba bb bc bd be bf => .mk a0 a1 a2 a3 a4 a5 a6 a7 a8 (.mk b0 b1 b2 v b4 b5 b6 b7 b8 b9 ba bb bc bd be bf) aa ab ac ad ae af) a9) T
def s148 (T : Tm) (v : AV) : Tm := T2.rec (motive := fun _ => Tm) (fun a0 a1 a2 a3 a4 a5 a6 a7 a8 a9 aa ab ac ad ae af => T1.rec (motive := fun _ => Tm) (fun b0 b1 b2 b3 b4 b5 b6 b7 b8 b9 ba bb bc bd be bf => .mk a0 a1 a2 a3 a4 a5 a6 a7 a8 (.mk b0 b1 b2 b3 v b5 b6 b7 b8 b9 ba bb bc bd be bf) aa ab ac ad ae af) a9) T
def s149 (T : Tm) (v : AV) : Tm := T2.rec (motive := fun _ => Tm) (fun a0 a1 a2 a3 a4 a5 a6 a7 a8 a9 aa ab ac ad ae af => T1.rec (motive := fun _ => Tm) (fun b0 b1 b2 b3 b4 b5 b6 b7 b8 b9 ba bb bc bd be bf => .mk a0 a1 a2 a3 a4 a5 a6 a7 a8 (.mk b0 b1 b2 b3 b4 v b6 b7 b8 b9 ba bb bc bd be bf) aa ab ac ad ae af) a9) T
def s150 (T : Tm) (v : AV) : Tm := T2.rec (motive := fun _ => Tm) (fun a0 a1 a2 a3 a4 a5 a6 a7 a8 a9 aa ab ac ad ae af => T1.rec (motive := fun _ => Tm) (fun b0 b1 b2 b3 b4 b5 b6 b7 b8 b9 ba bb bc bd be bf => .mk a0 a1 a2 a3 a4 a5 a6 a7 a8 (.mk b0 b1 b2 b3 b4 b5 v b7 b8 b9 ba bb bc bd be bf) aa ab ac ad ae af) a9) T
def s151 (T : Tm) (v : AV) : Tm := T2.rec (motive := fun _ => Tm) (fun a0 a1 a2 a3 a4 a5 a6 a7 a8 a9 aa ab ac ad ae af => T1.rec (motive := fun _ => Tm) (fun b0 b1 b2 b3 b4 b5 b6 b7 b8 b9 ba bb bc bd be bf => .mk a0 a1 a2 a3 a4 a5 a6 a7 a8 (.mk b0 b1 b2 b3 b4 b5 b6 v b8 b9 ba bb bc bd be bf) aa ab ac ad ae af) a9) T
def s152 (T : Tm) (v : AV) : Tm := T2.rec (motive := fun _ => Tm) (fun a0 a1 a2 a3 a4 a5 a6 a7 a8 a9 aa ab ac ad ae af => T1.rec (motive := fun _ => Tm) (fun b0 b1 b2 b3 b4 b5 b6 b7 b8 b9 ba bb bc bd be bf => .mk a0 a1 a2 a3 a4 a5 a6 a7 a8 (.mk b0 b1 b2 b3 b4 b5 b6 b7 v b9 ba bb bc bd be bf) aa ab ac ad ae af) a9) T
def s153 (T : Tm) (v : AV) : Tm := T2.rec (motive := fun _ => Tm) (fun a0 a1 a2 a3 a4 a5 a6 a7 a8 a9 aa ab ac ad ae af => T1.rec (motive := fun _ => Tm) (fun b0 b1 b2 b3 b4 b5 b6 b7 b8 b9 ba bb bc bd be bf => .mk a0 a1 a2 a3 a4 a5 a6 a7 a8 (.mk b0 b1 b2 b3 b4 b5 b6 b7 b8 v ba bb bc bd be bf) aa ab ac ad ae af) a9) T
def s154 (T : Tm) (v : AV) : Tm := T2.rec (motive := fun _ => Tm) (fun a0 a1 a2 a3 a4 a5 a6 a7 a8 a9 aa ab ac ad ae af => T1.rec (motive := fun _ => Tm) (fun b0 b1 b2 b3 b4 b5 b6 b7 b8 b9 ba bb bc bd be bf => .mk a0 a1 a2 a3 a4 a5 a6 a7 a8 (.mk b0 b1 b2 b3 b4 b5 b6 b7 b8 b9 v bb bc bd be bf) aa ab ac ad ae af) a9) T
def s155 (T : Tm) (v : AV) : Tm := T2.rec (motive := fun _ => Tm) (fun a0 a1 a2 a3 a4 a5 a6 a7 a8 a9 aa ab ac ad ae af => T1.rec (motive := fun _ => Tm) (fun b0 b1 b2 b3 b4 b5 b6 b7 b8 b9 ba bb bc bd be bf => .mk a0 a1 a2 a3 a4 a5 a6 a7 a8 (.mk b0 b1 b2 b3 b4 b5 b6 b7 b8 b9 ba v bc bd be bf) aa ab ac ad ae af) a9) T
def s156 (T : Tm) (v : AV) : Tm := T2.rec (motive := fun _ => Tm) (fun a0 a1 a2 a3 a4 a5 a6 a7 a8 a9 aa ab ac ad ae af => T1.rec (motive := fun _ => Tm) (fun b0 b1 b2 b3 b4 b5 b6 b7 b8 b9 ba bb bc bd be bf => .mk a0 a1 a2 a3 a4 a5 a6 a7 a8 (.mk b0 b1 b2 b3 b4 b5 b6 b7 b8 b9 ba bb v bd be bf) aa ab ac ad ae af) a9) T
def s157 (T : Tm) (v : AV) : Tm := T2.rec (motive := fun _ => Tm) (fun a0 a1 a2 a3 a4 a5 a6 a7 a8 a9 aa ab ac ad ae af => T1.rec (motive := fun _ => Tm) (fun b0 b1 b2 b3 b4 b5 b6 b7 b8 b9 ba bb bc bd be bf => .mk a0 a1 a2 a3 a4 a5 a6 a7 a8 (.mk b0 b1 b2 b3 b4 b5 b6 b7 b8 b9 ba bb bc v be bf) aa ab ac ad ae af) a9) T
def s158 (T : Tm) (v : AV) : Tm := T2.rec (motive := fun _ => Tm) (fun a0 a1 a2 a3 a4 a5 a6 a7 a8 a9 aa ab ac ad ae af => T1.rec (motive := fun _ => Tm) (fun b0 b1 b2 b3 b4 b5 b6 b7 b8 b9 ba bb bc bd be bf => .mk a0 a1 a2 a3 a4 a5 a6 a7 a8 (.mk b0 b1 b2 b3 b4 b5 b6 b7 b8 b9 ba bb bc bd v bf) aa ab ac ad ae af) a9) T
def s159 (T : Tm) (v : AV) : Tm := T2.rec (motive := fun _ => Tm) (fun a0 a1 a2 a3 a4 a5 a6 a7 a8 a9 aa ab ac ad ae af => T1.rec (motive := fun _ => Tm) (fun b0 b1 b2 b3 b4 b5 b6 b7 b8 b9 ba bb bc bd be bf => .mk a0 a1 a2 a3 a4 a5 a6 a7 a8 (.mk b0 b1 b2 b3 b4 b5 b6 b7 b8 b9 ba bb bc bd be v) aa ab ac ad ae af) a9) T
def s160 (T : Tm) (v : AV) : Tm := T2.rec (motive := fun _ => Tm) (fun a0 a1 a2 a3 a4 a5 a6 a7 a8 a9 aa ab ac ad ae af => T1.rec (motive := fun _ => Tm) (fun b0 b1 b2 b3 b4 b5 b6 b7 b8 b9 ba bb bc bd be bf => .mk a0 a1 a2 a3 a4 a5 a6 a7 a8 a9 (.mk v b1 b2 b3 b4 b5 b6 b7 b8 b9 ba bb bc bd be bf) ab ac ad ae af) aa) T
def s161 (T : Tm) (v : AV) : Tm := T2.rec (motive := fun _ => Tm) (fun a0 a1 a2 a3 a4 a5 a6 a7 a8 a9 aa ab ac ad ae af => T1.rec (motive := fun _ => Tm) (fun b0 b1 b2 b3 b4 b5 b6 b7 b8 b9 ba bb bc bd be bf => .mk a0 a1 a2 a3 a4 a5 a6 a7 a8 a9 (.mk b0 v b2 b3 b4 b5 b6 b7 b8 b9 ba bb bc bd be bf) ab ac ad ae af) aa) T
def s162 (T : Tm) (v : AV) : Tm := T2.rec (motive := fun _ => Tm) (fun a0 a1 a2 a3 a4 a5 a6 a7 a8 a9 aa ab ac ad ae af => T1.rec (motive := fun _ => Tm) (fun b0 b1 b2 b3 b4 b5 b6 b7 b8 b9 ba bb bc bd be bf => .mk a0 a1 a2 a3 a4 a5 a6 a7 a8 a9 (.mk b0 b1 v b3 b4 b5 b6 b7 b8 b9 ba bb bc bd be bf) ab ac ad ae af) aa) T
def s163 (T : Tm) (v : AV) : Tm := T2.rec (motive := fun _ => Tm) (fun a0 a1 a2 a3 a4 a5 a6 a7 a8 a9 aa ab ac ad ae af => T1.rec (motive := fun _ => Tm) (fun b0 b1 b2 b3 b4 b5 b6 b7 b8 b9 ba bb bc bd be bf => .mk a0 a1 a2 a3 a4 a5 a6 a7 a8 a9 (.mk b0 b1 b2 v b4 b5 b6 b7 b8 b9 ba bb bc bd be bf) ab ac ad ae af) aa) T
def s164 (T : Tm) (v : AV) : Tm := T2.rec (motive := fun _ => Tm) (fun a0 a1 a2 a3 a4 a5 a6 a7 a8 a9 aa ab ac ad ae af => T1.rec (motive := fun _ => Tm) (fun b0 b1 b2 b3 b4 b5 b6 b7 b8 b9 ba bb bc bd be bf => .mk a0 a1 a2 a3 a4 a5 a6 a7 a8 a9 (.mk b0 b1 b2 b3 v b5 b6 b7 b8 b9 ba bb bc bd be bf) ab ac ad ae af) aa) T
def s165 (T : Tm) (v : AV) : Tm := T2.rec (motive := fun _ => Tm) (fun a0 a1 a2 a3 a4 a5 a6 a7 a8 a9 aa ab ac ad ae af => T1.rec (motive := fun _ => Tm) (fun b0 b1 b2 b3 b4 b5 b6 b7 b8 b9 ba bb bc bd be bf => .mk a0 a1 a2 a3 a4 a5 a6 a7 a8 a9 (.mk b0 b1 b2 b3 b4 v b6 b7 b8 b9 ba bb bc bd be bf) ab ac ad ae af) aa) T
def s166 (T : Tm) (v : AV) : Tm := T2.rec (motive := fun _ => Tm) (fun a0 a1 a2 a3 a4 a5 a6 a7 a8 a9 aa ab ac ad ae af => T1.rec (motive := fun _ => Tm) (fun b0 b1 b2 b3 b4 b5 b6 b7 b8 b9 ba bb bc bd be bf => .mk a0 a1 a2 a3 a4 a5 a6 a7 a8 a9 (.mk b0 b1 b2 b3 b4 b5 v b7 b8 b9 ba bb bc bd be bf) ab ac ad ae af) aa) T
def s167 (T : Tm) (v : AV) : Tm := T2.rec (motive := fun _ => Tm) (fun a0 a1 a2 a3 a4 a5 a6 a7 a8 a9 aa ab ac ad ae af => T1.rec (motive := fun _ => Tm) (fun b0 b1 b2 b3 b4 b5 b6 b7 b8 b9 ba bb bc bd be bf => .mk a0 a1 a2 a3 a4 a5 a6 a7 a8 a9 (.mk b0 b1 b2 b3 b4 b5 b6 v b8 b9 ba bb bc bd be bf) ab ac ad ae af) aa) T
def s168 (T : Tm) (v : AV) : Tm := T2.rec (motive := fun _ => Tm) (fun a0 a1 a2 a3 a4 a5 a6 a7 a8 a9 aa ab ac ad ae af => T1.rec (motive := fun _ => Tm) (fun b0 b1 b2 b3 b4 b5 b6 b7 b8 b9 ba bb bc bd be bf => .mk a0 a1 a2 a3 a4 a5 a6 a7 a8 a9 (.mk b0 b1 b2 b3 b4 b5 b6 b7 v b9 ba bb bc bd be bf) ab ac ad ae af) aa) T
def s169 (T : Tm) (v : AV) : Tm := T2.rec (motive := fun _ => Tm) (fun a0 a1 a2 a3 a4 a5 a6 a7 a8 a9 aa ab ac ad ae af => T1.rec (motive := fun _ => Tm) (fun b0 b1 b2 b3 b4 b5 b6 b7 b8 b9 ba bb bc bd be bf => .mk a0 a1 a2 a3 a4 a5 a6 a7 a8 a9 (.mk b0 b1 b2 b3 b4 b5 b6 b7 b8 v ba bb bc bd be bf) ab ac ad ae af) aa) T
def s170 (T : Tm) (v : AV) : Tm := T2.rec (motive := fun _ => Tm) (fun a0 a1 a2 a3 a4 a5 a6 a7 a8 a9 aa ab ac ad ae af => T1.rec (motive := fun _ => Tm) (fun b0 b1 b2 b3 b4 b5 b6 b7 b8 b9 ba bb bc bd be bf => .mk a0 a1 a2 a3 a4 a5 a6 a7 a8 a9 (.mk b0 b1 b2 b3 b4 b5 b6 b7 b8 b9 v bb bc bd be bf) ab ac ad ae af) aa) T
def s171 (T : Tm) (v : AV) : Tm := T2.rec (motive := fun _ => Tm) (fun a0 a1 a2 a3 a4 a5 a6 a7 a8 a9 aa ab ac ad ae af => T1.rec (motive := fun _ => Tm) (fun b0 b1 b2 b3 b4 b5 b6 b7 b8 b9 ba bb bc bd be bf => .mk a0 a1 a2 a3 a4 a5 a6 a7 a8 a9 (.mk b0 b1 b2 b3 b4 b5 b6 b7 b8 b9 ba v bc bd be bf) ab ac ad ae af) aa) T
def s172 (T : Tm) (v : AV) : Tm := T2.rec (motive := fun _ => Tm) (fun a0 a1 a2 a3 a4 a5 a6 a7 a8 a9 aa ab ac ad ae af => T1.rec (motive := fun _ => Tm) (fun b0 b1 b2 b3 b4 b5 b6 b7 b8 b9 ba bb bc bd be bf => .mk a0 a1 a2 a3 a4 a5 a6 a7 a8 a9 (.mk b0 b1 b2 b3 b4 b5 b6 b7 b8 b9 ba bb v bd be bf) ab ac ad ae af) aa) T
def s173 (T : Tm) (v : AV) : Tm := T2.rec (motive := fun _ => Tm) (fun a0 a1 a2 a3 a4 a5 a6 a7 a8 a9 aa ab ac ad ae af => T1.rec (motive := fun _ => Tm) (fun b0 b1 b2 b3 b4 b5 b6 b7 b8 b9 ba bb bc bd be bf => .mk a0 a1 a2 a3 a4 a5 a6 a7 a8 a9 (.mk b0 b1 b2 b3 b4 b5 b6 b7 b8 b9 ba bb bc v be bf) ab ac ad ae af) aa) T
def s174 (T : Tm) (v : AV) : Tm := T2.rec (motive := fun _ => Tm) (fun a0 a1 a2 a3 a4 a5 a6 a7 a8 a9 aa ab ac ad ae af => T1.rec (motive := fun _ => Tm) (fun b0 b1 b2 b3 b4 b5 b6 b7 b8 b9 ba bb bc bd be bf => .mk a0 a1 a2 a3 a4 a5 a6 a7 a8 a9 (.mk b0 b1 b2 b3 b4 b5 b6 b7 b8 b9 ba bb bc bd v bf) ab ac ad ae af) aa) T
def s175 (T : Tm) (v : AV) : Tm := T2.rec (motive := fun _ => Tm) (fun a0 a1 a2 a3 a4 a5 a6 a7 a8 a9 aa ab ac ad ae af => T1.rec (motive := fun _ => Tm) (fun b0 b1 b2 b3 b4 b5 b6 b7 b8 b9 ba bb bc bd be bf => .mk a0 a1 a2 a3 a4 a5 a6 a7 a8 a9 (.mk b0 b1 b2 b3 b4 b5 b6 b7 b8 b9 ba bb bc bd be v) ab ac ad ae af) aa) T
def s176 (T : Tm) (v : AV) : Tm := T2.rec (motive := fun _ => Tm) (fun a0 a1 a2 a3 a4 a5 a6 a7 a8 a9 aa ab ac ad ae af => T1.rec (motive := fun _ => Tm) (fun b0 b1 b2 b3 b4 b5 b6 b7 b8 b9 ba bb bc bd be bf => .mk a0 a1 a2 a3 a4 a5 a6 a7 a8 a9 aa (.mk v b1 b2 b3 b4 b5 b6 b7 b8 b9 ba bb bc bd be bf) ac ad ae af) ab) T
def s177 (T : Tm) (v : AV) : Tm := T2.rec (motive := fun _ => Tm) (fun a0 a1 a2 a3 a4 a5 a6 a7 a8 a9 aa ab ac ad ae af => T1.rec (motive := fun _ => Tm) (fun b0 b1 b2 b3 b4 b5 b6 b7 b8 b9 ba bb bc bd be bf => .mk a0 a1 a2 a3 a4 a5 a6 a7 a8 a9 aa (.mk b0 v b2 b3 b4 b5 b6 b7 b8 b9 ba bb bc bd be bf) ac ad ae af) ab) T
def s178 (T : Tm) (v : AV) : Tm := T2.rec (motive := fun _ => Tm) (fun a0 a1 a2 a3 a4 a5 a6 a7 a8 a9 aa ab ac ad ae af => T1.rec (motive := fun _ => Tm) (fun b0 b1 b2 b3 b4 b5 b6 b7 b8 b9 ba bb bc bd be bf => .mk a0 a1 a2 a3 a4 a5 a6 a7 a8 a9 aa (.mk b0 b1 v b3 b4 b5 b6 b7 b8 b9 ba bb bc bd be bf) ac ad ae af) ab) T
def s179 (T : Tm) (v : AV) : Tm := T2.rec (motive := fun _ => Tm) (fun a0 a1 a2 a3 a4 a5 a6 a7 a8 a9 aa ab ac ad ae af => T1.rec (motive := fun _ => Tm) (fun b0 b1 b2 b3 b4 b5 b6 b7 b8 b9 ba bb bc bd be bf => .mk a0 a1 a2 a3 a4 a5 a6 a7 a8 a9 aa (.mk b0 b1 b2 v b4 b5 b6 b7 b8 b9 ba bb bc bd be bf) ac ad ae af) ab) T
def s180 (T : Tm) (v : AV) : Tm := T2.rec (motive := fun _ => Tm) (fun a0 a1 a2 a3 a4 a5 a6 a7 a8 a9 aa ab ac ad ae af => T1.rec (motive := fun _ => Tm) (fun b0 b1 b2 b3 b4 b5 b6 b7 b8 b9 ba bb bc bd be bf => .mk a0 a1 a2 a3 a4 a5 a6 a7 a8 a9 aa (.mk b0 b1 b2 b3 v b5 b6 b7 b8 b9 ba bb bc bd be bf) ac ad ae af) ab) T
def s181 (T : Tm) (v : AV) : Tm := T2.rec (motive := fun _ => Tm) (fun a0 a1 a2 a3 a4 a5 a6 a7 a8 a9 aa ab ac ad ae af => T1.rec (motive := fun _ => Tm) (fun b0 b1 b2 b3 b4 b5 b6 b7 b8 b9 ba bb bc bd be bf => .mk a0 a1 a2 a3 a4 a5 a6 a7 a8 a9 aa (.mk b0 b1 b2 b3 b4 v b6 b7 b8 b9 ba bb bc bd be bf) ac ad ae af) ab) T
def s182 (T : Tm) (v : AV) : Tm := T2.rec (motive := fun _ => Tm) (fun a0 a1 a2 a3 a4 a5 a6 a7 a8 a9 aa ab ac ad ae af => T1.rec (motive := fun _ => Tm) (fun b0 b1 b2 b3 b4 b5 b6 b7 b8 b9 ba bb bc bd be bf => .mk a0 a1 a2 a3 a4 a5 a6 a7 a8 a9 aa (.mk b0 b1 b2 b3 b4 b5 v b7 b8 b9 ba bb bc bd be bf) ac ad ae af) ab) T
def s183 (T : Tm) (v : AV) : Tm := T2.rec (motive := fun _ => Tm) (fun a0 a1 a2 a3 a4 a5 a6 a7 a8 a9 aa ab ac ad ae af => T1.rec (motive := fun _ => Tm) (fun b0 b1 b2 b3 b4 b5 b6 b7 b8 b9 ba bb bc bd be bf => .mk a0 a1 a2 a3 a4 a5 a6 a7 a8 a9 aa (.mk b0 b1 b2 b3 b4 b5 b6 v b8 b9 ba bb bc bd be bf) ac ad ae af) ab) T
def s184 (T : Tm) (v : AV) : Tm := T2.rec (motive := fun _ => Tm) (fun a0 a1 a2 a3 a4 a5 a6 a7 a8 a9 aa ab ac ad ae af => T1.rec (motive := fun _ => Tm) (fun b0 b1 b2 b3 b4 b5 b6 b7 b8 b9 ba bb bc bd be bf => .mk a0 a1 a2 a3 a4 a5 a6 a7 a8 a9 aa (.mk b0 b1 b2 b3 b4 b5 b6 b7 v b9 ba bb bc bd be bf) ac ad ae af) ab) T
def s185 (T : Tm) (v : AV) : Tm := T2.rec (motive := fun _ => Tm) (fun a0 a1 a2 a3 a4 a5 a6 a7 a8 a9 aa ab ac ad ae af => T1.rec (motive := fun _ => Tm) (fun b0 b1 b2 b3 b4 b5 b6 b7 b8 b9 ba bb bc bd be bf => .mk a0 a1 a2 a3 a4 a5 a6 a7 a8 a9 aa (.mk b0 b1 b2 b3 b4 b5 b6 b7 b8 v ba bb bc bd be bf) ac ad ae af) ab) T
def s186 (T : Tm) (v : AV) : Tm := T2.rec (motive := fun _ => Tm) (fun a0 a1 a2 a3 a4 a5 a6 a7 a8 a9 aa ab ac ad ae af => T1.rec (motive := fun _ => Tm) (fun b0 b1 b2 b3 b4 b5 b6 b7 b8 b9 ba bb bc bd be bf => .mk a0 a1 a2 a3 a4 a5 a6 a7 a8 a9 aa (.mk b0 b1 b2 b3 b4 b5 b6 b7 b8 b9 v bb bc bd be bf) ac ad ae af) ab) T
def s187 (T : Tm) (v : AV) : Tm := T2.rec (motive := fun _ => Tm) (fun a0 a1 a2 a3 a4 a5 a6 a7 a8 a9 aa ab ac ad ae af => T1.rec (motive := fun _ => Tm) (fun b0 b1 b2 b3 b4 b5 b6 b7 b8 b9 ba bb bc bd be bf => .mk a0 a1 a2 a3 a4 a5 a6 a7 a8 a9 aa (.mk b0 b1 b2 b3 b4 b5 b6 b7 b8 b9 ba v bc bd be bf) ac ad ae af) ab) T
def s188 (T : Tm) (v : AV) : Tm := T2.rec (motive := fun _ => Tm) (fun a0 a1 a2 a3 a4 a5 a6 a7 a8 a9 aa ab ac ad ae af => T1.rec (motive := fun _ => Tm) (fun b0 b1 b2 b3 b4 b5 b6 b7 b8 b9 ba bb bc bd be bf => .mk a0 a1 a2 a3 a4 a5 a6 a7 a8 a9 aa (.mk b0 b1 b2 b3 b4 b5 b6 b7 b8 b9 ba bb v bd be bf) ac ad ae af) ab) T
def s189 (T : Tm) (v : AV) : Tm := T2.rec (motive := fun _ => Tm) (fun a0 a1 a2 a3 a4 a5 a6 a7 a8 a9 aa ab ac ad ae af => T1.rec (motive := fun _ => Tm) (fun b0 b1 b2 b3 b4 b5 b6 b7 b8 b9 ba bb bc bd be bf => .mk a0 a1 a2 a3 a4 a5 a6 a7 a8 a9 aa (.mk b0 b1 b2 b3 b4 b5 b6 b7 b8 b9 ba bb bc v be bf) ac ad ae af) ab) T
def s190 (T : Tm) (v : AV) : Tm := T2.rec (motive := fun _ => Tm) (fun a0 a1 a2 a3 a4 a5 a6 a7 a8 a9 aa ab ac ad ae af => T1.rec (motive := fun _ => Tm) (fun b0 b1 b2 b3 b4 b5 b6 b7 b8 b9 ba bb bc bd be bf => .mk a0 a1 a2 a3 a4 a5 a6 a7 a8 a9 aa (.mk b0 b1 b2 b3 b4 b5 b6 b7 b8 b9 ba bb bc bd v bf) ac ad ae af) ab) T
def s191 (T : Tm) (v : AV) : Tm := T2.rec (motive := fun _ => Tm) (fun a0 a1 a2 a3 a4 a5 a6 a7 a8 a9 aa ab ac ad ae af => T1.rec (motive := fun _ => Tm) (fun b0 b1 b2 b3 b4 b5 b6 b7 b8 b9 ba bb bc bd be bf => .mk a0 a1 a2 a3 a4 a5 a6 a7 a8 a9 aa (.mk b0 b1 b2 b3 b4 b5 b6 b7 b8 b9 ba bb bc bd be v) ac ad ae af) ab) T
def s192 (T : Tm) (v : AV) : Tm := T2.rec (motive := fun _ => Tm) (fun a0 a1 a2 a3 a4 a5 a6 a7 a8 a9 aa ab ac ad ae af => T1.rec (motive := fun _ => Tm) (fun b0 b1 b2 b3 b4 b5 b6 b7 b8 b9 ba bb bc bd be bf => .mk a0 a1 a2 a3 a4 a5 a6 a7 a8 a9 aa ab (.mk v b1 b2 b3 b4 b5 b6 b7 b8 b9 ba bb bc bd be bf) ad ae af) ac) T
def s193 (T : Tm) (v : AV) : Tm := T2.rec (motive := fun _ => Tm) (fun a0 a1 a2 a3 a4 a5 a6 a7 a8 a9 aa ab ac ad ae af => T1.rec (motive := fun _ => Tm) (fun b0 b1 b2 b3 b4 b5 b6 b7 b8 b9 ba bb bc bd be bf => .mk a0 a1 a2 a3 a4 a5 a6 a7 a8 a9 aa ab (.mk b0 v b2 b3 b4 b5 b6 b7 b8 b9 ba bb bc bd be bf) ad ae af) ac) T
def s194 (T : Tm) (v : AV) : Tm := T2.rec (motive := fun _ => Tm) (fun a0 a1 a2 a3 a4 a5 a6 a7 a8 a9 aa ab ac ad ae af => T1.rec (motive := fun _ => Tm) (fun b0 b1 b2 b3 b4 b5 b6 b7 b8 b9 ba bb bc bd be bf => .mk a0 a1 a2 a3 a4 a5 a6 a7 a8 a9 aa ab (.mk b0 b1 v b3 b4 b5 b6 b7 b8 b9 ba bb bc bd be bf) ad ae af) ac) T
def s195 (T : Tm) (v : AV) : Tm := T2.rec (motive := fun _ => Tm) (fun a0 a1 a2 a3 a4 a5 a6 a7 a8 a9 aa ab ac ad ae af => T1.rec (motive := fun _ => Tm) (fun b0 b1 b2 b3 b4 b5 b6 b7 b8 b9 ba bb bc bd be bf => .mk a0 a1 a2 a3 a4 a5 a6 a7 a8 a9 aa ab (.mk b0 b1 b2 v b4 b5 b6 b7 b8 b9 ba bb bc bd be bf) ad ae af) ac) T
def s196 (T : Tm) (v : AV) : Tm := T2.rec (motive := fun _ => Tm) (fun a0 a1 a2 a3 a4 a5 a6 a7 a8 a9 aa ab ac ad ae af => T1.rec (motive := fun _ => Tm) (fun b0 b1 b2 b3 b4 b5 b6 b7 b8 b9 ba bb bc bd be bf => .mk a0 a1 a2 a3 a4 a5 a6 a7 a8 a9 aa ab (.mk b0 b1 b2 b3 v b5 b6 b7 b8 b9 ba bb bc bd be bf) ad ae af) ac) T
def s197 (T : Tm) (v : AV) : Tm := T2.rec (motive := fun _ => Tm) (fun a0 a1 a2 a3 a4 a5 a6 a7 a8 a9 aa ab ac ad ae af => T1.rec (motive := fun _ => Tm) (fun b0 b1 b2 b3 b4 b5 b6 b7 b8 b9 ba bb bc bd be bf => .mk a0 a1 a2 a3 a4 a5 a6 a7 a8 a9 aa ab (.mk b0 b1 b2 b3 b4 v b6 b7 b8 b9 ba bb bc bd be bf) ad ae af) ac) T
def s198 (T : Tm) (v : AV) : Tm := T2.rec (motive := fun _ => Tm) (fun a0 a1 a2 a3 a4 a5 a6 a7 a8 a9 aa ab ac ad ae af => T1.rec (motive := fun _ => Tm) (fun b0 b1 b2 b3 b4 b5 b6 b7 b8 b9 ba bb bc bd be bf => .mk a0 a1 a2 a3 a4 a5 a6 a7 a8 a9 aa ab (.mk b0 b1 b2 b3 b4 b5 v b7 b8 b9 ba bb bc bd be bf) ad ae af) ac) T
def s199 (T : Tm) (v : AV) : Tm := T2.rec (motive := fun _ => Tm) (fun a0 a1 a2 a3 a4 a5 a6 a7 a8 a9 aa ab ac ad ae af => T1.rec (motive := fun _ => Tm) (fun b0 b1 b2 b3 b4 b5 b6 b7 b8 b9 ba bb bc bd be bf => .mk a0 a1 a2 a3 a4 a5 a6 a7 a8 a9 aa ab (.mk b0 b1 b2 b3 b4 b5 b6 v b8 b9 ba bb bc bd be bf) ad ae af) ac) T
def s200 (T : Tm) (v : AV) : Tm := T2.rec (motive := fun _ => Tm) (fun a0 a1 a2 a3 a4 a5 a6 a7 a8 a9 aa ab ac ad ae af => T1.rec (motive := fun _ => Tm) (fun b0 b1 b2 b3 b4 b5 b6 b7 b8 b9 ba bb bc bd be bf => .mk a0 a1 a2 a3 a4 a5 a6 a7 a8 a9 aa ab (.mk b0 b1 b2 b3 b4 b5 b6 b7 v b9 ba bb bc bd be bf) ad ae af) ac) T
def s201 (T : Tm) (v : AV) : Tm := T2.rec (motive := fun _ => Tm) (fun a0 a1 a2 a3 a4 a5 a6 a7 a8 a9 aa ab ac ad ae af => T1.rec (motive := fun _ => Tm) (fun b0 b1 b2 b3 b4 b5 b6 b7 b8 b9 ba bb bc bd be bf => .mk a0 a1 a2 a3 a4 a5 a6 a7 a8 a9 aa ab (.mk b0 b1 b2 b3 b4 b5 b6 b7 b8 v ba bb bc bd be bf) ad ae af) ac) T
def s202 (T : Tm) (v : AV) : Tm := T2.rec (motive := fun _ => Tm) (fun a0 a1 a2 a3 a4 a5 a6 a7 a8 a9 aa ab ac ad ae af => T1.rec (motive := fun _ => Tm) (fun b0 b1 b2 b3 b4 b5 b6 b7 b8 b9 ba bb bc bd be bf => .mk a0 a1 a2 a3 a4 a5 a6 a7 a8 a9 aa ab (.mk b0 b1 b2 b3 b4 b5 b6 b7 b8 b9 v bb bc bd be bf) ad ae af) ac) T
def s203 (T : Tm) (v : AV) : Tm := T2.rec (motive := fun _ => Tm) (fun a0 a1 a2 a3 a4 a5 a6 a7 a8 a9 aa ab ac ad ae af => T1.rec (motive := fun _ => Tm) (fun b0 b1 b2 b3 b4 b5 b6 b7 b8 b9 ba bb bc bd be bf => .mk a0 a1 a2 a3 a4 a5 a6 a7 a8 a9 aa ab (.mk b0 b1 b2 b3 b4 b5 b6 b7 b8 b9 ba v bc bd be bf) ad ae af) ac) T
def s204 (T : Tm) (v : AV) : Tm := T2.rec (motive := fun _ => Tm) (fun a0 a1 a2 a3 a4 a5 a6 a7 a8 a9 aa ab ac ad ae af => T1.rec (motive := fun _ => Tm) (fun b0 b1 b2 b3 b4 b5 b6 b7 b8 b9 ba bb bc bd be bf => .mk a0 a1 a2 a3 a4 a5 a6 a7 a8 a9 aa ab (.mk b0 b1 b2 b3 b4 b5 b6 b7 b8 b9 ba bb v bd be bf) ad ae af) ac) T
def s205 (T : Tm) (v : AV) : Tm := T2.rec (motive := fun _ => Tm) (fun a0 a1 a2 a3 a4 a5 a6 a7 a8 a9 aa ab ac ad ae af => T1.rec (motive := fun _ => Tm) (fun b0 b1 b2 b3 b4 b5 b6 b7 b8 b9 ba bb bc bd be bf => .mk a0 a1 a2 a3 a4 a5 a6 a7 a8 a9 aa ab (.mk b0 b1 b2 b3 b4 b5 b6 b7 b8 b9 ba bb bc v be bf) ad ae af) ac) T
def s206 (T : Tm) (v : AV) : Tm := T2.rec (motive := fun _ => Tm) (fun a0 a1 a2 a3 a4 a5 a6 a7 a8 a9 aa ab ac ad ae af => T1.rec (motive := fun _ => Tm) (fun b0 b1 b2 b3 b4 b5 b6 b7 b8 b9 ba bb bc bd be bf => .mk a0 a1 a2 a3 a4 a5 a6 a7 a8 a9 aa ab (.mk b0 b1 b2 b3 b4 b5 b6 b7 b8 b9 ba bb bc bd v bf) ad ae af) ac) T
def s207 (T : Tm) (v : AV) : Tm := T2.rec (motive := fun _ => Tm) (fun a0 a1 a2 a3 a4 a5 a6 a7 a8 a9 aa ab ac ad ae af => T1.rec (motive := fun _ => Tm) (fun b0 b1 b2 b3 b4 b5 b6 b7 b8 b9 ba bb bc bd be bf => .mk a0 a1 a2 a3 a4 a5 a6 a7 a8 a9 aa ab (.mk b0 b1 b2 b3 b4 b5 b6 b7 b8 b9 ba bb bc bd be v) ad ae af) ac) T
def s208 (T : Tm) (v : AV) : Tm := T2.rec (motive := fun _ => Tm) (fun a0 a1 a2 a3 a4 a5 a6 a7 a8 a9 aa ab ac ad ae af => T1.rec (motive := fun _ => Tm) (fun b0 b1 b2 b3 b4 b5 b6 b7 b8 b9 ba bb bc bd be bf => .mk a0 a1 a2 a3 a4 a5 a6 a7 a8 a9 aa ab ac (.mk v b1 b2 b3 b4 b5 b6 b7 b8 b9 ba bb bc bd be bf) ae af) ad) T
def s209 (T : Tm) (v : AV) : Tm := T2.rec (motive := fun _ => Tm) (fun a0 a1 a2 a3 a4 a5 a6 a7 a8 a9 aa ab ac ad ae af => T1.rec (motive := fun _ => Tm) (fun b0 b1 b2 b3 b4 b5 b6 b7 b8 b9 ba bb bc bd be bf => .mk a0 a1 a2 a3 a4 a5 a6 a7 a8 a9 aa ab ac (.mk b0 v b2 b3 b4 b5 b6 b7 b8 b9 ba bb bc bd be bf) ae af) ad) T
def s210 (T : Tm) (v : AV) : Tm := T2.rec (motive := fun _ => Tm) (fun a0 a1 a2 a3 a4 a5 a6 a7 a8 a9 aa ab ac ad ae af => T1.rec (motive := fun _ => Tm) (fun b0 b1 b2 b3 b4 b5 b6 b7 b8 b9 ba bb bc bd be bf => .mk a0 a1 a2 a3 a4 a5 a6 a7 a8 a9 aa ab ac (.mk b0 b1 v b3 b4 b5 b6 b7 b8 b9 ba bb bc bd be bf) ae af) ad) T
def s211 (T : Tm) (v : AV) : Tm := T2.rec (motive := fun _ => Tm) (fun a0 a1 a2 a3 a4 a5 a6 a7 a8 a9 aa ab ac ad ae af => T1.rec (motive := fun _ => Tm) (fun b0 b1 b2 b3 b4 b5 b6 b7 b8 b9 ba bb bc bd be bf => .mk a0 a1 a2 a3 a4 a5 a6 a7 a8 a9 aa ab ac (.mk b0 b1 b2 v b4 b5 b6 b7 b8 b9 ba bb bc bd be bf) ae af) ad) T
def s212 (T : Tm) (v : AV) : Tm := T2.rec (motive := fun _ => Tm) (fun a0 a1 a2 a3 a4 a5 a6 a7 a8 a9 aa ab ac ad ae af => T1.rec (motive := fun _ => Tm) (fun b0 b1 b2 b3 b4 b5 b6 b7 b8 b9 ba bb bc bd be bf => .mk a0 a1 a2 a3 a4 a5 a6 a7 a8 a9 aa ab ac (.mk b0 b1 b2 b3 v b5 b6 b7 b8 b9 ba bb bc bd be bf) ae af) ad) T
def s213 (T : Tm) (v : AV) : Tm := T2.rec (motive := fun _ => Tm) (fun a0 a1 a2 a3 a4 a5 a6 a7 a8 a9 aa ab ac ad ae af => T1.rec (motive := fun _ => Tm) (fun b0 b1 b2 b3 b4 b5 b6 b7 b8 b9 ba bb bc bd be bf => .mk a0 a1 a2 a3 a4 a5 a6 a7 a8 a9 aa ab ac (.mk b0 b1 b2 b3 b4 v b6 b7 b8 b9 ba bb bc bd be bf) ae af) ad) T
def s214 (T : Tm) (v : AV) : Tm := T2.rec (motive := fun _ => Tm) (fun a0 a1 a2 a3 a4 a5 a6 a7 a8 a9 aa ab ac ad ae af => T1.rec (motive := fun _ => Tm) (fun b0 b1 b2 b3 b4 b5 b6 b7 b8 b9 ba bb bc bd be bf => .mk a0 a1 a2 a3 a4 a5 a6 a7 a8 a9 aa ab ac (.mk b0 b1 b2 b3 b4 b5 v b7 b8 b9 ba bb bc bd be bf) ae af) ad) T
def s215 (T : Tm) (v : AV) : Tm := T2.rec (motive := fun _ => Tm) (fun a0 a1 a2 a3 a4 a5 a6 a7 a8 a9 aa ab ac ad ae af => T1.rec (motive := fun _ => Tm) (fun b0 b1 b2 b3 b4 b5 b6 b7 b8 b9 ba bb bc bd be bf => .mk a0 a1 a2 a3 a4 a5 a6 a7 a8 a9 aa ab ac (.mk b0 b1 b2 b3 b4 b5 b6 v b8 b9 ba bb bc bd be bf) ae af) ad) T
def s216 (T : Tm) (v : AV) : Tm := T2.rec (motive := fun _ => Tm) (fun a0 a1 a2 a3 a4 a5 a6 a7 a8 a9 aa ab ac ad ae af => T1.rec (motive := fun _ => Tm) (fun b0 b1 b2 b3 b4 b5 b6 b7 b8 b9 ba bb bc bd be bf => .mk a0 a1 a2 a3 a4 a5 a6 a7 a8 a9 aa ab ac (.mk b0 b1 b2 b3 b4 b5 b6 b7 v b9 ba bb bc bd be bf) ae af) ad) T
def s217 (T : Tm) (v : AV) : Tm := T2.rec (motive := fun _ => Tm) (fun a0 a1 a2 a3 a4 a5 a6 a7 a8 a9 aa ab ac ad ae af => T1.rec (motive := fun _ => Tm) (fun b0 b1 b2 b3 b4 b5 b6 b7 b8 b9 ba bb bc bd be bf => .mk a0 a1 a2 a3 a4 a5 a6 a7 a8 a9 aa ab ac (.mk b0 b1 b2 b3 b4 b5 b6 b7 b8 v ba bb bc bd be bf) ae af) ad) T
def s218 (T : Tm) (v : AV) : Tm := T2.rec (motive := fun _ => Tm) (fun a0 a1 a2 a3 a4 a5 a6 a7 a8 a9 aa ab ac ad ae af => T1.rec (motive := fun _ => Tm) (fun b0 b1 b2 b3 b4 b5 b6 b7 b8 b9 ba bb bc bd be bf => .mk a0 a1 a2 a3 a4 a5 a6 a7 a8 a9 aa ab ac (.mk b0 b1 b2 b3 b4 b5 b6 b7 b8 b9 v bb bc bd be bf) ae af) ad) T
def s219 (T : Tm) (v : AV) : Tm := T2.rec (motive := fun _ => Tm) (fun a0 a1 a2 a3 a4 a5 a6 a7 a8 a9 aa ab ac ad ae af => T1.rec (motive := fun _ => Tm) (fun b0 b1 b2 b3 b4 b5 b6 b7 b8 b9 ba bb bc bd be bf => .mk a0 a1 a2 a3 a4 a5 a6 a7 a8 a9 aa ab ac (.mk b0 b1 b2 b3 b4 b5 b6 b7 b8 b9 ba v bc bd be bf) ae af) ad) T
def s220 (T : Tm) (v : AV) : Tm := T2.rec (motive := fun _ => Tm) (fun a0 a1 a2 a3 a4 a5 a6 a7 a8 a9 aa ab ac ad ae af => T1.rec (motive := fun _ => Tm) (fun b0 b1 b2 b3 b4 b5 b6 b7 b8 b9 ba bb bc bd be bf => .mk a0 a1 a2 a3 a4 a5 a6 a7 a8 a9 aa ab ac (.mk b0 b1 b2 b3 b4 b5 b6 b7 b8 b9 ba bb v bd be bf) ae af) ad) T
def s221 (T : Tm) (v : AV) : Tm := T2.rec (motive := fun _ => Tm) (fun a0 a1 a2 a3 a4 a5 a6 a7 a8 a9 aa ab ac ad ae af => T1.rec (motive := fun _ => Tm) (fun b0 b1 b2 b3 b4 b5 b6 b7 b8 b9 ba bb bc bd be bf => .mk a0 a1 a2 a3 a4 a5 a6 a7 a8 a9 aa ab ac (.mk b0 b1 b2 b3 b4 b5 b6 b7 b8 b9 ba bb bc v be bf) ae af) ad) T
def s222 (T : Tm) (v : AV) : Tm := T2.rec (motive := fun _ => Tm) (fun a0 a1 a2 a3 a4 a5 a6 a7 a8 a9 aa ab ac ad ae af => T1.rec (motive := fun _ => Tm) (fun b0 b1 b2 b3 b4 b5 b6 b7 b8 b9 ba bb bc bd be bf => .mk a0 a1 a2 a3 a4 a5 a6 a7 a8 a9 aa ab ac (.mk b0 b1 b2 b3 b4 b5 b6 b7 b8 b9 ba bb bc bd v bf) ae af) ad) T
def s223 (T : Tm) (v : AV) : Tm := T2.rec (motive := fun _ => Tm) (fun a0 a1 a2 a3 a4 a5 a6 a7 a8 a9 aa ab ac ad ae af => T1.rec (motive := fun _ => Tm) (fun b0 b1 b2 b3 b4 b5 b6 b7 b8 b9 ba bb bc bd be bf => .mk a0 a1 a2 a3 a4 a5 a6 a7 a8 a9 aa ab ac (.mk b0 b1 b2 b3 b4 b5 b6 b7 b8 b9 ba bb bc bd be v) ae af) ad) T
def s224 (T : Tm) (v : AV) : Tm := T2.rec (motive := fun _ => Tm) (fun a0 a1 a2 a3 a4 a5 a6 a7 a8 a9 aa ab ac ad ae af => T1.rec (motive := fun _ => Tm) (fun b0 b1 b2 b3 b4 b5 b6 b7 b8 b9 ba bb bc bd be bf => .mk a0 a1 a2 a3 a4 a5 a6 a7 a8 a9 aa ab ac ad (.mk v b1 b2 b3 b4 b5 b6 b7 b8 b9 ba bb bc bd be bf) af) ae) T
def s225 (T : Tm) (v : AV) : Tm := T2.rec (motive := fun _ => Tm) (fun a0 a1 a2 a3 a4 a5 a6 a7 a8 a9 aa ab ac ad ae af => T1.rec (motive := fun _ => Tm) (fun b0 b1 b2 b3 b4 b5 b6 b7 b8 b9 ba bb bc bd be bf => .mk a0 a1 a2 a3 a4 a5 a6 a7 a8 a9 aa ab ac ad (.mk b0 v b2 b3 b4 b5 b6 b7 b8 b9 ba bb bc bd be bf) af) ae) T
def s226 (T : Tm) (v : AV) : Tm := T2.rec (motive := fun _ => Tm) (fun a0 a1 a2 a3 a4 a5 a6 a7 a8 a9 aa ab ac ad ae af => T1.rec (motive := fun _ => Tm) (fun b0 b1 b2 b3 b4 b5 b6 b7 b8 b9 ba bb bc bd be bf => .mk a0 a1 a2 a3 a4 a5 a6 a7 a8 a9 aa ab ac ad (.mk b0 b1 v b3 b4 b5 b6 b7 b8 b9 ba bb bc bd be bf) af) ae) T
def s227 (T : Tm) (v : AV) : Tm := T2.rec (motive := fun _ => Tm) (fun a0 a1 a2 a3 a4 a5 a6 a7 a8 a9 aa ab ac ad ae af => T1.rec (motive := fun _ => Tm) (fun b0 b1 b2 b3 b4 b5 b6 b7 b8 b9 ba bb bc bd be bf => .mk a0 a1 a2 a3 a4 a5 a6 a7 a8 a9 aa ab ac ad (.mk b0 b1 b2 v b4 b5 b6 b7 b8 b9 ba bb bc bd be bf) af) ae) T
def s228 (T : Tm) (v : AV) : Tm := T2.rec (motive := fun _ => Tm) (fun a0 a1 a2 a3 a4 a5 a6 a7 a8 a9 aa ab ac ad ae af => T1.rec (motive := fun _ => Tm) (fun b0 b1 b2 b3 b4 b5 b6 b7 b8 b9 ba bb bc bd be bf => .mk a0 a1 a2 a3 a4 a5 a6 a7 a8 a9 aa ab ac ad (.mk b0 b1 b2 b3 v b5 b6 b7 b8 b9 ba bb bc bd be bf) af) ae) T
def s229 (T : Tm) (v : AV) : Tm := T2.rec (motive := fun _ => Tm) (fun a0 a1 a2 a3 a4 a5 a6 a7 a8 a9 aa ab ac ad ae af => T1.rec (motive := fun _ => Tm) (fun b0 b1 b2 b3 b4 b5 b6 b7 b8 b9 ba bb bc bd be bf => .mk a0 a1 a2 a3 a4 a5 a6 a7 a8 a9 aa ab ac ad (.mk b0 b1 b2 b3 b4 v b6 b7 b8 b9 ba bb bc bd be bf) af) ae) T
def s230 (T : Tm) (v : AV) : Tm := T2.rec (motive := fun _ => Tm) (fun a0 a1 a2 a3 a4 a5 a6 a7 a8 a9 aa ab ac ad ae af => T1.rec (motive := fun _ => Tm) (fun b0 b1 b2 b3 b4 b5 b6 b7 b8 b9 ba bb bc bd be bf => .mk a0 a1 a2 a3 a4 a5 a6 a7 a8 a9 aa ab ac ad (.mk b0 b1 b2 b3 b4 b5 v b7 b8 b9 ba bb bc bd be bf) af) ae) T
def s231 (T : Tm) (v : AV) : Tm := T2.rec (motive := fun _ => Tm) (fun a0 a1 a2 a3 a4 a5 a6 a7 a8 a9 aa ab ac ad ae af => T1.rec (motive := fun _ => Tm) (fun b0 b1 b2 b3 b4 b5 b6 b7 b8 b9 ba bb bc bd be bf => .mk a0 a1 a2 a3 a4 a5 a6 a7 a8 a9 aa ab ac ad (.mk b0 b1 b2 b3 b4 b5 b6 v b8 b9 ba bb bc bd be bf) af) ae) T
def s232 (T : Tm) (v : AV) : Tm := T2.rec (motive := fun _ => Tm) (fun a0 a1 a2 a3 a4 a5 a6 a7 a8 a9 aa ab ac ad ae af => T1.rec (motive := fun _ => Tm) (fun b0 b1 b2 b3 b4 b5 b6 b7 b8 b9 ba bb bc bd be bf => .mk a0 a1 a2 a3 a4 a5 a6 a7 a8 a9 aa ab ac ad (.mk b0 b1 b2 b3 b4 b5 b6 b7 v b9 ba bb bc bd be bf) af) ae) T
def s233 (T : Tm) (v : AV) : Tm := T2.rec (motive := fun _ => Tm) (fun a0 a1 a2 a3 a4 a5 a6 a7 a8 a9 aa ab ac ad ae af => T1.rec (motive := fun _ => Tm) (fun b0 b1 b2 b3 b4 b5 b6 b7 b8 b9 ba bb bc bd be bf => .mk a0 a1 a2 a3 a4 a5 a6 a7 a8 a9 aa ab ac ad (.mk b0 b1 b2 b3 b4 b5 b6 b7 b8 v ba bb bc bd be bf) af) ae) T
def s234 (T : Tm) (v : AV) : Tm := T2.rec (motive := fun _ => Tm) (fun a0 a1 a2 a3 a4 a5 a6 a7 a8 a9 aa ab ac ad ae af => T1.rec (motive := fun _ => Tm) (fun b0 b1 b2 b3 b4 b5 b6 b7 b8 b9 ba bb bc bd be bf => .mk a0 a1 a2 a3 a4 a5 a6 a7 a8 a9 aa ab ac ad (.mk b0 b1 b2 b3 b4 b5 b6 b7 b8 b9 v bb bc bd be bf) af) ae) T
def s235 (T : Tm) (v : AV) : Tm := T2.rec (motive := fun _ => Tm) (fun a0 a1 a2 a3 a4 a5 a6 a7 a8 a9 aa ab ac ad ae af => T1.rec (motive := fun _ => Tm) (fun b0 b1 b2 b3 b4 b5 b6 b7 b8 b9 ba bb bc bd be bf => .mk a0 a1 a2 a3 a4 a5 a6 a7 a8 a9 aa ab ac ad (.mk b0 b1 b2 b3 b4 b5 b6 b7 b8 b9 ba v bc bd be bf) af) ae) T
def s236 (T : Tm) (v : AV) : Tm := T2.rec (motive := fun _ => Tm) (fun a0 a1 a2 a3 a4 a5 a6 a7 a8 a9 aa ab ac ad ae af => T1.rec (motive := fun _ => Tm) (fun b0 b1 b2 b3 b4 b5 b6 b7 b8 b9 ba bb bc bd be bf => .mk a0 a1 a2 a3 a4 a5 a6 a7 a8 a9 aa ab ac ad (.mk b0 b1 b2 b3 b4 b5 b6 b7 b8 b9 ba bb v bd be bf) af) ae) T
def s237 (T : Tm) (v : AV) : Tm := T2.rec (motive := fun _ => Tm) (fun a0 a1 a2 a3 a4 a5 a6 a7 a8 a9 aa ab ac ad ae af => T1.rec (motive := fun _ => Tm) (fun b0 b1 b2 b3 b4 b5 b6 b7 b8 b9 ba bb bc bd be bf => .mk a0 a1 a2 a3 a4 a5 a6 a7 a8 a9 aa ab ac ad (.mk b0 b1 b2 b3 b4 b5 b6 b7 b8 b9 ba bb bc v be bf) af) ae) T
def s238 (T : Tm) (v : AV) : Tm := T2.rec (motive := fun _ => Tm) (fun a0 a1 a2 a3 a4 a5 a6 a7 a8 a9 aa ab ac ad ae af => T1.rec (motive := fun _ => Tm) (fun b0 b1 b2 b3 b4 b5 b6 b7 b8 b9 ba bb bc bd be bf => .mk a0 a1 a2 a3 a4 a5 a6 a7 a8 a9 aa ab ac ad (.mk b0 b1 b2 b3 b4 b5 b6 b7 b8 b9 ba bb bc bd v bf) af) ae) T
def s239 (T : Tm) (v : AV) : Tm := T2.rec (motive := fun _ => Tm) (fun a0 a1 a2 a3 a4 a5 a6 a7 a8 a9 aa ab ac ad ae af => T1.rec (motive := fun _ => Tm) (fun b0 b1 b2 b3 b4 b5 b6 b7 b8 b9 ba bb bc bd be bf => .mk a0 a1 a2 a3 a4 a5 a6 a7 a8 a9 aa ab ac ad (.mk b0 b1 b2 b3 b4 b5 b6 b7 b8 b9 ba bb bc bd be v) af) ae) T
def s240 (T : Tm) (v : AV) : Tm := T2.rec (motive := fun _ => Tm) (fun a0 a1 a2 a3 a4 a5 a6 a7 a8 a9 aa ab ac ad ae af => T1.rec (motive := fun _ => Tm) (fun b0 b1 b2 b3 b4 b5 b6 b7 b8 b9 ba bb bc bd be bf => .mk a0 a1 a2 a3 a4 a5 a6 a7 a8 a9 aa ab ac ad ae (.mk v b1 b2 b3 b4 b5 b6 b7 b8 b9 ba bb bc bd be bf)) af) T
def s241 (T : Tm) (v : AV) : Tm := T2.rec (motive := fun _ => Tm) (fun a0 a1 a2 a3 a4 a5 a6 a7 a8 a9 aa ab ac ad ae af => T1.rec (motive := fun _ => Tm) (fun b0 b1 b2 b3 b4 b5 b6 b7 b8 b9 ba bb bc bd be bf => .mk a0 a1 a2 a3 a4 a5 a6 a7 a8 a9 aa ab ac ad ae (.mk b0 v b2 b3 b4 b5 b6 b7 b8 b9 ba bb bc bd be bf)) af) T
def s242 (T : Tm) (v : AV) : Tm := T2.rec (motive := fun _ => Tm) (fun a0 a1 a2 a3 a4 a5 a6 a7 a8 a9 aa ab ac ad ae af => T1.rec (motive := fun _ => Tm) (fun b0 b1 b2 b3 b4 b5 b6 b7 b8 b9 ba bb bc bd be bf => .mk a0 a1 a2 a3 a4 a5 a6 a7 a8 a9 aa ab ac ad ae (.mk b0 b1 v b3 b4 b5 b6 b7 b8 b9 ba bb bc bd be bf)) af) T
def s243 (T : Tm) (v : AV) : Tm := T2.rec (motive := fun _ => Tm) (fun a0 a1 a2 a3 a4 a5 a6 a7 a8 a9 aa ab ac ad ae af => T1.rec (motive := fun _ => Tm) (fun b0 b1 b2 b3 b4 b5 b6 b7 b8 b9 ba bb bc bd be bf => .mk a0 a1 a2 a3 a4 a5 a6 a7 a8 a9 aa ab ac ad ae (.mk b0 b1 b2 v b4 b5 b6 b7 b8 b9 ba bb bc bd be bf)) af) T
def s244 (T : Tm) (v : AV) : Tm := T2.rec (motive := fun _ => Tm) (fun a0 a1 a2 a3 a4 a5 a6 a7 a8 a9 aa ab ac ad ae af => T1.rec (motive := fun _ => Tm) (fun b0 b1 b2 b3 b4 b5 b6 b7 b8 b9 ba bb bc bd be bf => .mk a0 a1 a2 a3 a4 a5 a6 a7 a8 a9 aa ab ac ad ae (.mk b0 b1 b2 b3 v b5 b6 b7 b8 b9 ba bb bc bd be bf)) af) T
def s245 (T : Tm) (v : AV) : Tm := T2.rec (motive := fun _ => Tm) (fun a0 a1 a2 a3 a4 a5 a6 a7 a8 a9 aa ab ac ad ae af => T1.rec (motive := fun _ => Tm) (fun b0 b1 b2 b3 b4 b5 b6 b7 b8 b9 ba bb bc bd be bf => .mk a0 a1 a2 a3 a4 a5 a6 a7 a8 a9 aa ab ac ad ae (.mk b0 b1 b2 b3 b4 v b6 b7 b8 b9 ba bb bc bd be bf)) af) T
def s246 (T : Tm) (v : AV) : Tm := T2.rec (motive := fun _ => Tm) (fun a0 a1 a2 a3 a4 a5 a6 a7 a8 a9 aa ab ac ad ae af => T1.rec (motive := fun _ => Tm) (fun b0 b1 b2 b3 b4 b5 b6 b7 b8 b9 ba bb bc bd be bf => .mk a0 a1 a2 a3 a4 a5 a6 a7 a8 a9 aa ab ac ad ae (.mk b0 b1 b2 b3 b4 b5 v b7 b8 b9 ba bb bc bd be bf)) af) T
def s247 (T : Tm) (v : AV) : Tm := T2.rec (motive := fun _ => Tm) (fun a0 a1 a2 a3 a4 a5 a6 a7 a8 a9 aa ab ac ad ae af => T1.rec (motive := fun _ => Tm) (fun b0 b1 b2 b3 b4 b5 b6 b7 b8 b9 ba bb bc bd be bf => .mk a0 a1 a2 a3 a4 a5 a6 a7 a8 a9 aa ab ac ad ae (.mk b0 b1 b2 b3 b4 b5 b6 v b8 b9 ba bb bc bd be bf)) af) T
def s248 (T : Tm) (v : AV) : Tm := T2.rec (motive := fun _ => Tm) (fun a0 a1 a2 a3 a4 a5 a6 a7 a8 a9 aa ab ac ad ae af => T1.rec (motive := fun _ => Tm) (fun b0 b1 b2 b3 b4 b5 b6 b7 b8 b9 ba bb bc bd be bf => .mk a0 a1 a2 a3 a4 a5 a6 a7 a8 a9 aa ab ac ad ae (.mk b0 b1 b2 b3 b4 b5 b6 b7 v b9 ba bb bc bd be bf)) af) T
def s249 (T : Tm) (v : AV) : Tm := T2.rec (motive := fun _ => Tm) (fun a0 a1 a2 a3 a4 a5 a6 a7 a8 a9 aa ab ac ad ae af => T1.rec (motive := fun _ => Tm) (fun b0 b1 b2 b3 b4 b5 b6 b7 b8 b9 ba bb bc bd be bf => .mk a0 a1 a2 a3 a4 a5 a6 a7 a8 a9 aa ab ac ad ae (.mk b0 b1 b2 b3 b4 b5 b6 b7 b8 v ba bb bc bd be bf)) af) T
def s250 (T : Tm) (v : AV) : Tm := T2.rec (motive := fun _ => Tm) (fun a0 a1 a2 a3 a4 a5 a6 a7 a8 a9 aa ab ac ad ae af => T1.rec (motive := fun _ => Tm) (fun b0 b1 b2 b3 b4 b5 b6 b7 b8 b9 ba bb bc bd be bf => .mk a0 a1 a2 a3 a4 a5 a6 a7 a8 a9 aa ab ac ad ae (.mk b0 b1 b2 b3 b4 b5 b6 b7 b8 b9 v bb bc bd be bf)) af) T
def s251 (T : Tm) (v : AV) : Tm := T2.rec (motive := fun _ => Tm) (fun a0 a1 a2 a3 a4 a5 a6 a7 a8 a9 aa ab ac ad ae af => T1.rec (motive := fun _ => Tm) (fun b0 b1 b2 b3 b4 b5 b6 b7 b8 b9 ba bb bc bd be bf => .mk a0 a1 a2 a3 a4 a5 a6 a7 a8 a9 aa ab ac ad ae (.mk b0 b1 b2 b3 b4 b5 b6 b7 b8 b9 ba v bc bd be bf)) af) T
def s252 (T : Tm) (v : AV) : Tm := T2.rec (motive := fun _ => Tm) (fun a0 a1 a2 a3 a4 a5 a6 a7 a8 a9 aa ab ac ad ae af => T1.rec (motive := fun _ => Tm) (fun b0 b1 b2 b3 b4 b5 b6 b7 b8 b9 ba bb bc bd be bf => .mk a0 a1 a2 a3 a4 a5 a6 a7 a8 a9 aa ab ac ad ae (.mk b0 b1 b2 b3 b4 b5 b6 b7 b8 b9 ba bb v bd be bf)) af) T
def s253 (T : Tm) (v : AV) : Tm := T2.rec (motive := fun _ => Tm) (fun a0 a1 a2 a3 a4 a5 a6 a7 a8 a9 aa ab ac ad ae af => T1.rec (motive := fun _ => Tm) (fun b0 b1 b2 b3 b4 b5 b6 b7 b8 b9 ba bb bc bd be bf => .mk a0 a1 a2 a3 a4 a5 a6 a7 a8 a9 aa ab ac ad ae (.mk b0 b1 b2 b3 b4 b5 b6 b7 b8 b9 ba bb bc v be bf)) af) T
def s254 (T : Tm) (v : AV) : Tm := T2.rec (motive := fun _ => Tm) (fun a0 a1 a2 a3 a4 a5 a6 a7 a8 a9 aa ab ac ad ae af => T1.rec (motive := fun _ => Tm) (fun b0 b1 b2 b3 b4 b5 b6 b7 b8 b9 ba bb bc bd be bf => .mk a0 a1 a2 a3 a4 a5 a6 a7 a8 a9 aa ab ac ad ae (.mk b0 b1 b2 b3 b4 b5 b6 b7 b8 b9 ba bb bc bd v bf)) af) T
def s255 (T : Tm) (v : AV) : Tm := T2.rec (motive := fun _ => Tm) (fun a0 a1 a2 a3 a4 a5 a6 a7 a8 a9 aa ab ac ad ae af => T1.rec (motive := fun _ => Tm) (fun b0 b1 b2 b3 b4 b5 b6 b7 b8 b9 ba bb bc bd be bf => .mk a0 a1 a2 a3 a4 a5 a6 a7 a8 a9 aa ab ac ad ae (.mk b0 b1 b2 b3 b4 b5 b6 b7 b8 b9 ba bb bc bd be v)) af) T
end
end Go.Proofs.YtaogloegiffioaaGreatDoor
namespace Go.Proofs.YtaogloegiffioaaGreatDoor
noncomputable section
def onI64 {α : Type} (x : AV) (k : Nat → α) (z : α) : α := AV.rec (motive_1 := fun _ => (Nat → α) → α → α) (motive_2 := fun _ => Unit) (motive_3 := fun _ => Unit) (fun x0 k _ => k x0) (fun _ _ z => z) (fun _ _ z => z) (fun _ _ z => z) (fun _ _ z => z) (fun _ _ z => z) (fun _ _ _ z => z) (fun _ _ z => z) (fun _ _ _ z => z) (fun _ _ _ _ _ _ _ z => z) (fun _ _ _ _ z => z) (fun _ _ z => z) (fun _ _ _ _ z => z) (fun _ _ _ _ z => z) (fun _ _ _ z => z) () (fun _ _ _ _ => ()) () (fun _ _ _ _ _ _ _ _ _ _ _ _ _ _ _ _ => ()) (fun _ _ _ _ _ _ _ _ _ _ _ _ _ _ _ _ _ => ()) x k z
def onU64 {α : Type} (x : AV) (k : Nat → α) (z : α) : α := AV.rec (motive_1 := fun _ => (Nat → α) → α → α) (motive_2 := fun _ => Unit) (motive_3 := fun _ => Unit) (fun _ _ z => z) (fun x0 k _ => k x0) (fun _ _ z => z) (fun _ _ z => z) (fun _ _ z => z) (fun _ _ z => z) (fun _ _ _ z => z) (fun _ _ z => z) (fun _ _ _ z => z) (fun _ _ _ _ _ _ _ z => z) (fun _ _ _ _ z => z) (fun _ _ z => z) (fun _ _ _ _ z => z) (fun _ _ _ _ z => z) (fun _ _ _ z => z) () (fun _ _ _ _ => ()) () (fun _ _ _ _ _ _ _ _ _ _ _ _ _ _ _ _ => ()) (fun _ _ _ _ _ _ _ _ _ _ _ _ _ _ _ _ _ => ()) x k z
def onU8 {α : Type} (x : AV) (k : Nat → α) (z : α) : α := AV.rec (motive_1 := fun _ => (Nat → α) → α → α) (motive_2 := fun _ => Unit) (motive_3 := fun _ => Unit) (fun _ _ z => z) (fun _ _ z => z) (fun x0 k _ => k x0) (fun _ _ z => z) (fun _ _ z => z) (fun _ _ z => z) (fun _ _ _ z => z) (fun _ _ z => z) (fun _ _ _ z => z) (fun _ _ _ _ _ _ _ z => z) (fun _ _ _ _ z => z) (fun _ _ z => z) (fun _ _ _ _ z => z) (fun _ _ _ _ z => z) (fun _ _ _ z => z) () (fun _ _ _ _ => ()) () (fun _ _ _ _ _ _ _ _ _ _ _ _ _ _ _ _ => ()) (fun _ _ _ _ _ _ _ _ _ _ _ _ _ _ _ _ _ => ()) x k z
def onU32 {α : Type} (x : AV) (k : Nat → α) (z : α) : α := AV.rec (motive_1 := fun _ => (Nat → α) → α → α) (motive_2 := fun _ => Unit) (motive_3 := fun _ => Unit) (fun _ _ z => z) (fun _ _ z => z) (fun _ _ z => z) (fun x0 k _ => k x0) (fun _ _ z => z) (fun _ _ z => z) (fun _ _ _ z => z) (fun _ _ z => z) (fun _ _ _ z => z) (fun _ _ _ _ _ _ _ z => z) (fun _ _ _ _ z => z) (fun _ _ z => z) (fun _ _ _ _ z => z) (fun _ _ _ _ z => z) (fun _ _ _ z => z) () (fun _ _ _ _ => ()) () (fun _ _ _ _ _ _ _ _ _ _ _ _ _ _ _ _ => ()) (fun _ _ _ _ _ _ _ _ _ _ _ _ _ _ _ _ _ => ()) x k z
def onI32 {α : Type} (x : AV) (k : Nat → α) (z : α) : α := AV.rec (motive_1 := fun _ => (Nat → α) → α → α) (motive_2 := fun _ => Unit) (motive_3 := fun _ => Unit) (fun _ _ z => z) (fun _ _ z => z) (fun _ _ z => z) (fun _ _ z => z) (fun x0 k _ => k x0) (fun _ _ z => z) (fun _ _ _ z => z) (fun _ _ z => z) (fun _ _ _ z => z) (fun _ _ _ _ _ _ _ z => z) (fun _ _ _ _ z => z) (fun _ _ z => z) (fun _ _ _ _ z => z) (fun _ _ _ _ z => z) (fun _ _ _ z => z) () (fun _ _ _ _ => ()) () (fun _ _ _ _ _ _ _ _ _ _ _ _ _ _ _ _ => ()) (fun _ _ _ _ _ _ _ _ _ _ _ _ _ _ _ _ _ => ()) x k z
def onB {α : Type} (x : AV) (k : Bool → α) (z : α) : α := AV.rec (motive_1 := fun _ => (Bool → α) → α → α) (motive_2 := fun _ => Unit) (motive_3 := fun _ => Unit) (fun _ _ z => z) (fun _ _ z => z) (fun _ _ z => z) (fun _ _ z => z) (fun _ _ z => z) (fun x0 k _ => k x0) (fun _ _ _ z => z) (fun _ _ z => z) (fun _ _ _ z => z) (fun _ _ _ _ _ _ _ z => z) (fun _ _ _ _ z => z) (fun _ _ z => z) (fun _ _ _ _ z => z) (fun _ _ _ _ z => z) (fun _ _ _ z => z) () (fun _ _ _ _ => ()) () (fun _ _ _ _ _ _ _ _ _ _ _ _ _ _ _ _ => ()) (fun _ _ _ _ _ _ _ _ _ _ _ _ _ _ _ _ _ => ()) x k z
def onS {α : Type} (x : AV) (k : Nat → Nat → α) (z : α) : α := AV.rec (motive_1 := fun _ => (Nat → Nat → α) → α → α) (motive_2 := fun _ => Unit) (motive_3 := fun _ => Unit) (fun _ _ z => z) (fun _ _ z => z) (fun _ _ z => z) (fun _ _ z => z) (fun _ _ z => z) (fun _ _ z => z) (fun x0 x1 k _ => k x0 x1) (fun _ _ z => z) (fun _ _ _ z => z) (fun _ _ _ _ _ _ _ z => z) (fun _ _ _ _ z => z) (fun _ _ z => z) (fun _ _ _ _ z => z) (fun _ _ _ _ z => z) (fun _ _ _ z => z) () (fun _ _ _ _ => ()) () (fun _ _ _ _ _ _ _ _ _ _ _ _ _ _ _ _ => ()) (fun _ _ _ _ _ _ _ _ _ _ _ _ _ _ _ _ _ => ()) x k z
def onLit {α : Type} (x : AV) (k : Value → α) (z : α) : α := AV.rec (motive_1 := fun _ => (Value → α) → α → α) (motive_2 := fun _ => Unit) (motive_3 := fun _ => Unit) (fun _ _ z => z) (fun _ _ z => z) (fun _ _ z => z) (fun _ _ z => z) (fun _ _ z => z) (fun _ _ z => z) (fun _ _ _ z => z) (fun x0 k _ => k x0) (fun _ _ _ z => z) (fun _ _ _ _ _ _ _ z => z) (fun _ _ _ _ z => z) (fun _ _ z => z) (fun _ _ _ _ z => z) (fun _ _ _ _ z => z) (fun _ _ _ z => z) () (fun _ _ _ _ => ()) () (fun _ _ _ _ _ _ _ _ _ _ _ _ _ _ _ _ => ()) (fun _ _ _ _ _ _ _ _ _ _ _ _ _ _ _ _ _ => ()) x k z
def onP {α : Type} (x : AV) (k : Bid → Nat → α) (z : α) : α := AV.rec (motive_1 := fun _ => (Bid → Nat → α) → α → α) (motive_2 := fun _ => Unit) (motive_3 := fun _ => Unit) (fun _ _ z => z) (fun _ _ z => z) (fun _ _ z => z) (fun _ _ z => z) (fun _ _ z => z) (fun _ _ z => z) (fun _ _ _ z => z) (fun _ _ z => z) (fun x0 x1 k _ => k x0 x1) (fun _ _ _ _ _ _ _ z => z) (fun _ _ _ _ z => z) (fun _ _ z => z) (fun _ _ _ _ z => z) (fun _ _ _ _ z => z) (fun _ _ _ z => z) () (fun _ _ _ _ => ()) () (fun _ _ _ _ _ _ _ _ _ _ _ _ _ _ _ _ => ()) (fun _ _ _ _ _ _ _ _ _ _ _ _ _ _ _ _ _ => ()) x k z
def onSl {α : Type} (x : AV) (k : Bid → Nat → Nat → Nat → Nat → Bool → α) (z : α) : α := AV.rec (motive_1 := fun _ => (Bid → Nat → Nat → Nat → Nat → Bool → α) → α → α) (motive_2 := fun _ => Unit) (motive_3 := fun _ => Unit) (fun _ _ z => z) (fun _ _ z => z) (fun _ _ z => z) (fun _ _ z => z) (fun _ _ z => z) (fun _ _ z => z) (fun _ _ _ z => z) (fun _ _ z => z) (fun _ _ _ z => z) (fun x0 x1 x2 x3 x4 x5 k _ => k x0 x1 x2 x3 x4 x5) (fun _ _ _ _ z => z) (fun _ _ z => z) (fun _ _ _ _ z => z) (fun _ _ _ _ z => z) (fun _ _ _ z => z) () (fun _ _ _ _ => ()) () (fun _ _ _ _ _ _ _ _ _ _ _ _ _ _ _ _ => ()) (fun _ _ _ _ _ _ _ _ _ _ _ _ _ _ _ _ _ => ()) x k z
def onFn {α : Type} (x : AV) (k : FuncId → AVs → α) (z : α) : α := AV.rec (motive_1 := fun _ => (FuncId → AVs → α) → α → α) (motive_2 := fun _ => Unit) (motive_3 := fun _ => Unit) (fun _ _ z => z) (fun _ _ z => z) (fun _ _ z => z) (fun _ _ z => z) (fun _ _ z => z) (fun _ _ z => z) (fun _ _ _ z => z) (fun _ _ z => z) (fun _ _ _ z => z) (fun _ _ _ _ _ _ _ z => z) (fun x0 x1 _ k _ => k x0 x1) (fun _ _ z => z) (fun _ _ _ _ z => z) (fun _ _ _ _ z => z) (fun _ _ _ z => z) () (fun _ _ _ _ => ()) () (fun _ _ _ _ _ _ _ _ _ _ _ _ _ _ _ _ => ()) (fun _ _ _ _ _ _ _ _ _ _ _ _ _ _ _ _ _ => ()) x k z
def onMp {α : Type} (x : AV) (k : Bid → α) (z : α) : α := AV.rec (motive_1 := fun _ => (Bid → α) → α → α) (motive_2 := fun _ => Unit) (motive_3 := fun _ => Unit) (fun _ _ z => z) (fun _ _ z => z) (fun _ _ z => z) (fun _ _ z => z) (fun _ _ z => z) (fun _ _ z => z) (fun _ _ _ z => z) (fun _ _ z => z) (fun _ _ _ z => z) (fun _ _ _ _ _ _ _ z => z) (fun _ _ _ _ z => z) (fun x0 k _ => k x0) (fun _ _ _ _ z => z) (fun _ _ _ _ z => z) (fun _ _ _ z => z) () (fun _ _ _ _ => ()) () (fun _ _ _ _ _ _ _ _ _ _ _ _ _ _ _ _ => ()) (fun _ _ _ _ _ _ _ _ _ _ _ _ _ _ _ _ _ => ()) x k z
def onIface {α : Type} (x : AV) (k : TypeId → AV → α) (z : α) : α := AV.rec (motive_1 := fun _ => (TypeId → AV → α) → α → α) (motive_2 := fun _ => Unit) (motive_3 := fun _ => Unit) (fun _ _ z => z) (fun _ _ z => z) (fun _ _ z => z) (fun _ _ z => z) (fun _ _ z => z) (fun _ _ z => z) (fun _ _ _ z => z) (fun _ _ z => z) (fun _ _ _ z => z) (fun _ _ _ _ _ _ _ z => z) (fun _ _ _ _ z => z) (fun _ _ z => z) (fun x0 x1 _ k _ => k x0 x1) (fun _ _ _ _ z => z) (fun _ _ _ z => z) () (fun _ _ _ _ => ()) () (fun _ _ _ _ _ _ _ _ _ _ _ _ _ _ _ _ => ()) (fun _ _ _ _ _ _ _ _ _ _ _ _ _ _ _ _ _ => ()) x k z
def onAgg {α : Type} (x : AV) (k : Nat → Row → α) (z : α) : α := AV.rec (motive_1 := fun _ => (Nat → Row → α) → α → α) (motive_2 := fun _ => Unit) (motive_3 := fun _ => Unit) (fun _ _ z => z) (fun _ _ z => z) (fun _ _ z => z) (fun _ _ z => z) (fun _ _ z => z) (fun _ _ z => z) (fun _ _ _ z => z) (fun _ _ z => z) (fun _ _ _ z => z) (fun _ _ _ _ _ _ _ z => z) (fun _ _ _ _ z => z) (fun _ _ z => z) (fun _ _ _ _ z => z) (fun x0 x1 _ k _ => k x0 x1) (fun _ _ _ z => z) () (fun _ _ _ _ => ()) () (fun _ _ _ _ _ _ _ _ _ _ _ _ _ _ _ _ => ()) (fun _ _ _ _ _ _ _ _ _ _ _ _ _ _ _ _ _ => ()) x k z
def onTup {α : Type} (x : AV) (k : AVs → α) (z : α) : α := AV.rec (motive_1 := fun _ => (AVs → α) → α → α) (motive_2 := fun _ => Unit) (motive_3 := fun _ => Unit) (fun _ _ z => z) (fun _ _ z => z) (fun _ _ z => z) (fun _ _ z => z) (fun _ _ z => z) (fun _ _ z => z) (fun _ _ _ z => z) (fun _ _ z => z) (fun _ _ _ z => z) (fun _ _ _ _ _ _ _ z => z) (fun _ _ _ _ z => z) (fun _ _ z => z) (fun _ _ _ _ z => z) (fun _ _ _ _ z => z) (fun x0 _ k _ => k x0) () (fun _ _ _ _ => ()) () (fun _ _ _ _ _ _ _ _ _ _ _ _ _ _ _ _ => ()) (fun _ _ _ _ _ _ _ _ _ _ _ _ _ _ _ _ _ => ()) x k z
def onNum {α : Type} (x : AV) (k : Nat → α) (z : α) : α := AV.rec (motive_1 := fun _ => (Nat → α) → α → α) (motive_2 := fun _ => Unit) (motive_3 := fun _ => Unit) (fun n k _ => k n) (fun n k _ => k n) (fun n k _ => k n) (fun n k _ => k n) (fun n k _ => k n) (fun _ _ z => z) (fun _ _ _ z => z) (fun _ _ z => z) (fun _ _ _ z => z) (fun _ _ _ _ _ _ _ z => z) (fun _ _ _ _ z => z) (fun _ _ z => z) (fun _ _ _ _ z => z) (fun _ _ _ _ z => z) (fun _ _ _ z => z) () (fun _ _ _ _ => ()) () (fun _ _ _ _ _ _ _ _ _ _ _ _ _ _ _ _ => ()) (fun _ _ _ _ _ _ _ _ _ _ _ _ _ _ _ _ _ => ()) x k z
def AV.val (x : AV) : Option Value := AV.rec (motive_1 := fun _ => Option Value) (motive_2 := fun _ => Unit) (motive_3 := fun _ => Unit) (fun n => some (.int .i64 (.ofNat n))) (fun n => some (.int .u64 (.ofNat n))) (fun n => some (.int .u8 (.ofNat n))) (fun n => some (.int .u32 (.ofNat n))) (fun n => some (.int .i32 (.ofNat n))) (fun b => some (.bool b)) (fun _ _ => none) (fun v => some v) (fun _ _ => none) (fun _ _ _ _ _ _ => none) (fun _ _ _ => none) (fun _ => none) (fun _ _ _ => none) (fun _ _ _ => none) (fun _ _ => none) () (fun _ _ _ _ => ()) () (fun _ _ _ _ _ _ _ _ _ _ _ _ _ _ _ _ => ()) (fun _ _ _ _ _ _ _ _ _ _ _ _ _ _ _ _ _ => ()) x
def onCells {α : Type} (b : Blk) (k : TypeId → Nat → Row → α) (z : α) : α := Blk.rec (motive := fun _ => (TypeId → Nat → Row → α) → α → α) (fun _ z => z) (fun x0 x1 x2 k _ => k x0 x1 x2) (fun _ _ _ _ _ z => z) (fun _ _ _ z => z) (fun _ _ _ _ z => z) (fun _ z => z) (fun _ _ _ _ _ z => z) b k z
def onPk {α : Type} (b : Blk) (k : PK → TypeId → Nat → Nat → α) (z : α) : α := Blk.rec (motive := fun _ => (PK → TypeId → Nat → Nat → α) → α → α) (fun _ z => z) (fun _ _ _ _ z => z) (fun x0 x1 x2 x3 k _ => k x0 x1 x2 x3) (fun _ _ _ z => z) (fun _ _ _ _ z => z) (fun _ z => z) (fun _ _ _ _ _ z => z) b k z
def onMap {α : Type} (b : Blk) (k : Ents → Nat → α) (z : α) : α := Blk.rec (motive := fun _ => (Ents → Nat → α) → α → α) (fun _ z => z) (fun _ _ _ _ z => z) (fun _ _ _ _ _ z => z) (fun x0 x1 k _ => k x0 x1) (fun _ _ _ _ z => z) (fun _ z => z) (fun _ _ _ _ _ z => z) b k z
def onSiter {α : Type} (b : Blk) (k : Nat → Nat → Nat → α) (z : α) : α := Blk.rec (motive := fun _ => (Nat → Nat → Nat → α) → α → α) (fun _ z => z) (fun _ _ _ _ z => z) (fun _ _ _ _ _ z => z) (fun _ _ _ z => z) (fun x0 x1 x2 k _ => k x0 x1 x2) (fun _ z => z) (fun _ _ _ _ _ z => z) b k z
def onDev {α : Type} (b : Blk) (k : Nat → Row → Row → Nat → α) (z : α) : α := Blk.rec (motive := fun _ => (Nat → Row → Row → Nat → α) → α → α) (fun _ z => z) (fun _ _ _ _ z => z) (fun _ _ _ _ _ z => z) (fun _ _ _ z => z) (fun _ _ _ _ z => z) (fun _ z => z) (fun x0 x1 x2 x3 k _ => k x0 x1 x2 x3) b k z
def onCP {α : Type} (b : Blk) (k : TypeId → Nat → Row → α) (g : PK → TypeId → Nat → Nat → α) (z : α) : α := Blk.rec (motive := fun _ => (TypeId → Nat → Row → α) → (PK → TypeId → Nat → Nat → α) → α → α) (fun _ _ z => z) (fun x0 x1 x2 k _ _ => k x0 x1 x2) (fun x0 x1 x2 x3 _ g _ => g x0 x1 x2 x3) (fun _ _ _ _ z => z) (fun _ _ _ _ _ z => z) (fun _ _ z => z) (fun _ _ _ _ _ _ z => z) b k g z
def oneV : Value → Bool
  | .agg _ => false
  | .tuple _ => false
  | _ => true
def oneC (x : AV) : Bool := AV.rec (motive_1 := fun _ => Bool) (motive_2 := fun _ => Unit) (motive_3 := fun _ => Unit) (fun _ => true) (fun _ => true) (fun _ => true) (fun _ => true) (fun _ => true) (fun _ => true) (fun _ _ => true) (fun v => oneV v) (fun _ _ => true) (fun _ _ _ _ _ _ => true) (fun _ _ _ => true) (fun _ => true) (fun _ _ _ => true) (fun _ _ _ => false) (fun _ _ => false) () (fun _ _ _ _ => ()) () (fun _ _ _ _ _ _ _ _ _ _ _ _ _ _ _ _ => ()) (fun _ _ _ _ _ _ _ _ _ _ _ _ _ _ _ _ _ => ()) x
def normI : IntKind → Nat → AV
  | .i64, n => Bool.rec (.lit (.int .i64 (.ofNat n))) (.i64 n) (Nat.ble n 9223372036854775807)
  | .u64, n => Bool.rec (.lit (.int .u64 (.ofNat n))) (.u64 n) (Nat.ble n 18446744073709551615)
  | .u8, n => Bool.rec (.lit (.int .u8 (.ofNat n))) (.u8 n) (Nat.ble n 255)
  | .u32, n => Bool.rec (.lit (.int .u32 (.ofNat n))) (.u32 n) (Nat.ble n 4294967295)
  | .i32, n => Bool.rec (.lit (.int .i32 (.ofNat n))) (.i32 n) (Nat.ble n 2147483647)
  | k, n => .lit (.int k (.ofNat n))
def normV : Value → AV
  | .int k (.ofNat n) => normI k n
  | .bool b => .b b
  | v => .lit v
def OA.bind (x : OA) (k : AV → OA) : OA := OA.rec (motive := fun _ => (AV → OA) → OA) (fun _ => .no) (fun v k => k v) x k
def OA.bindR (x : OA) (k : AV → RA) : RA := OA.rec (motive := fun _ => (AV → RA) → RA) (fun _ => .no) (fun v k => k v) x k
def sel8 {α : Type} (k : Nat) (a0 a1 a2 a3 a4 a5 a6 a7 : α) : α :=
  Bool.rec (Bool.rec (Bool.rec a7 a6 (Nat.ble k 6)) (Bool.rec a5 a4 (Nat.ble k 4)) (Nat.ble k 5)) (Bool.rec (Bool.rec a3 a2 (Nat.ble k 2)) (Bool.rec a1 a0 (Nat.ble k 0)) (Nat.ble k 1)) (Nat.ble k 3)
def Row.get (r : Row) (k : Nat) : OA := Row.rec (motive_1 := fun _ => Unit) (motive_2 := fun _ => Unit) (motive_3 := fun _ => Nat → OA) (fun _ => ()) (fun _ => ()) (fun _ => ()) (fun _ => ()) (fun _ => ()) (fun _ => ()) (fun _ _ => ()) (fun _ => ()) (fun _ _ => ()) (fun _ _ _ _ _ _ => ()) (fun _ _ _ => ()) (fun _ => ()) (fun _ _ _ => ()) (fun _ _ _ => ()) (fun _ _ => ()) () (fun _ _ _ _ => ()) (fun _ => .no) (fun a0 a1 a2 a3 a4 a5 a6 a7 _ _ _ _ _ _ _ _ k => .ok (sel8 k a0 a1 a2 a3 a4 a5 a6 a7)) (fun p a0 a1 a2 a3 a4 a5 a6 a7 h0 h1 h2 h3 h4 h5 h6 h7 k => sel8 (Nat.div k p) h0 h1 h2 h3 h4 h5 h6 h7 (Nat.mod k p)) r k
def leafSet (k : Nat) (a0 a1 a2 a3 a4 a5 a6 a7 v : AV) : Row := sel8 k (.l v a1 a2 a3 a4 a5 a6 a7) (.l a0 v a2 a3 a4 a5 a6 a7) (.l a0 a1 v a3 a4 a5 a6 a7) (.l a0 a1 a2 v a4 a5 a6 a7) (.l a0 a1 a2 a3 v a5 a6 a7) (.l a0 a1 a2 a3 a4 v a6 a7) (.l a0 a1 a2 a3 a4 a5 v a7) (.l a0 a1 a2 a3 a4 a5 a6 v)
def leaf1 (k : Nat) (v : AV) : Row := leafSet k undefA undefA undefA undefA undefA undefA undefA undefA v
def nodeSet (p : Nat) (a0 a1 a2 a3 a4 a5 a6 a7 : Row) (i : Nat) (c : Row) : Row := sel8 i (.n p c a1 a2 a3 a4 a5 a6 a7) (.n p a0 c a2 a3 a4 a5 a6 a7) (.n p a0 a1 c a3 a4 a5 a6 a7) (.n p a0 a1 a2 c a4 a5 a6 a7) (.n p a0 a1 a2 a3 c a5 a6 a7) (.n p a0 a1 a2 a3 a4 c a6 a7) (.n p a0 a1 a2 a3 a4 a5 c a7) (.n p a0 a1 a2 a3 a4 a5 a6 c)
def Row.one (f p k : Nat) (v : AV) : Row := Nat.rec (motive := fun _ => Nat → Nat → Row) (fun _ k => leaf1 k v) (fun _ ih p k => Bool.rec (nodeSet (Nat.div p 8) .e .e .e .e .e .e .e .e (Nat.div k (Nat.div p 8)) (ih (Nat.div p 8) (Nat.mod k (Nat.div p 8)))) (leaf1 k v) (Nat.ble p 8)) f p k
def Row.set (r : Row) (q k : Nat) (v : AV) : Row := Row.rec (motive_1 := fun _ => Unit) (motive_2 := fun _ => Unit) (motive_3 := fun _ => Nat → Nat → AV → Row) (fun _ => ()) (fun _ => ()) (fun _ => ()) (fun _ => ()) (fun _ => ()) (fun _ => ()) (fun _ _ => ()) (fun _ => ()) (fun _ _ => ()) (fun _ _ _ _ _ _ => ()) (fun _ _ _ => ()) (fun _ => ()) (fun _ _ _ => ()) (fun _ _ _ => ()) (fun _ _ => ()) () (fun _ _ _ _ => ()) (fun q k v => Row.one q q k v) (fun a0 a1 a2 a3 a4 a5 a6 a7 _ _ _ _ _ _ _ _ _ k v => leafSet k a0 a1 a2 a3 a4 a5 a6 a7 v) (fun p a0 a1 a2 a3 a4 a5 a6 a7 h0 h1 h2 h3 h4 h5 h6 h7 _ k v => sel8 (Nat.div k p) (.n p (h0 p (Nat.mod k p) v) a1 a2 a3 a4 a5 a6 a7) (.n p a0 (h1 p (Nat.mod k p) v) a2 a3 a4 a5 a6 a7) (.n p a0 a1 (h2 p (Nat.mod k p) v) a3 a4 a5 a6 a7) (.n p a0 a1 a2 (h3 p (Nat.mod k p) v) a4 a5 a6 a7) (.n p a0 a1 a2 a3 (h4 p (Nat.mod k p) v) a5 a6 a7) (.n p a0 a1 a2 a3 a4 (h5 p (Nat.mod k p) v) a6 a7) (.n p a0 a1 a2 a3 a4 a5 (h6 p (Nat.mod k p) v) a7) (.n p a0 a1 a2 a3 a4 a5 a6 (h7 p (Nat.mod k p) v))) r q k v
def Row.cap (r : Row) : Nat := Row.rec (motive_1 := fun _ => Unit) (motive_2 := fun _ => Unit) (motive_3 := fun _ => Nat) (fun _ => ()) (fun _ => ()) (fun _ => ()) (fun _ => ()) (fun _ => ()) (fun _ => ()) (fun _ _ => ()) (fun _ => ()) (fun _ _ => ()) (fun _ _ _ _ _ _ => ()) (fun _ _ _ => ()) (fun _ => ()) (fun _ _ _ => ()) (fun _ _ _ => ()) (fun _ _ => ()) () (fun _ _ _ _ => ()) 0 (fun a0 a1 a2 a3 a4 a5 a6 a7 _ _ _ _ _ _ _ _ => 8) (fun p a0 a1 a2 a3 a4 a5 a6 a7 h0 h1 h2 h3 h4 h5 h6 h7 => Nat.mul 8 p) r
def Row.put (r : Row) (k : Nat) (v : AV) : Row :=
  Bool.rec (Nat.rec (.l v undefA undefA undefA undefA undefA undefA undefA) (fun c _ => (Row.n (Nat.succ c) r .e .e .e .e .e .e .e).set 0 k v) r.cap) (r.set 0 k v) (Nat.ble (Nat.succ k) r.cap)
def Row.putL (r : Row) (k : Nat) (l : AVs) : Row :=
  AVs.rec (motive_1 := fun _ => Unit) (motive_2 := fun _ => Row → Nat → Row) (motive_3 := fun _ => Unit) (fun _ => ()) (fun _ => ()) (fun _ => ()) (fun _ => ()) (fun _ => ()) (fun _ => ()) (fun _ _ => ()) (fun _ => ()) (fun _ _ => ()) (fun _ _ _ _ _ _ => ()) (fun _ _ _ => ()) (fun _ => ()) (fun _ _ _ => ()) (fun _ _ _ => ()) (fun _ _ => ()) (fun r _ => r) (fun v _ _ ih r k => ih (r.put k v) (Nat.succ k)) () (fun _ _ _ _ _ _ _ _ _ _ _ _ _ _ _ _  => ()) (fun _ _ _ _ _ _ _ _ _ _ _ _ _ _ _ _ _  => ()) l r k
def Row.copy (n : Nat) (d : Row) (o : Nat) (s : Row) (q : Nat) : OR :=
  Nat.rec (motive := fun _ => Row → Nat → Nat → OR) (fun d _ _ => .ok d) (fun _ ih d o q => OA.rec (motive := fun _ => OR) .no (fun v => ih (d.put o v) (Nat.succ o) (Nat.succ q)) (s.get q)) n d o q
def Row.cut (r : Row) (o n : Nat) : OR := Bool.rec (Row.copy n .e 0 r o) (.ok r) (Nat.beq o 0)
def aggO (n : Nat) (r : OR) : OA := OR.rec .no (fun r => .ok (.agg n r)) r
def pkw (k : PK) : Nat := PK.rec 1 8 64 64 32 32 k
def pkm (k : PK) (n : Nat) : AV := PK.rec (motive := fun _ => Nat → AV) (fun n => .b (Nat.beq n 1)) (fun n => .u8 n) (fun n => Bool.rec (normV (.int .i64 (IntKind.wrap .i64 (.ofNat n)))) (.i64 n) (Nat.ble n 9223372036854775807)) (fun n => .u64 n) (fun n => Bool.rec (normV (.int .i32 (IntKind.wrap .i32 (.ofNat n)))) (.i32 n) (Nat.ble n 2147483647)) (fun n => .u32 n) k n
def pkEq (a b : PK) : Bool := PK.rec (motive := fun _ => PK → Bool) (fun b => PK.rec (motive := fun _ => Bool) true false false false false false b) (fun b => PK.rec (motive := fun _ => Bool) false true false false false false b) (fun b => PK.rec (motive := fun _ => Bool) false false true false false false b) (fun b => PK.rec (motive := fun _ => Bool) false false false true false false b) (fun b => PK.rec (motive := fun _ => Bool) false false false false true false b) (fun b => PK.rec (motive := fun _ => Bool) false false false false false true b) a b
def pow2 (k : Nat) : Nat := Nat.pow 2 k
def bitsAt (w n m i l : Nat) : Nat := Nat.mod (Nat.shiftRight m (Nat.mul w (Nat.sub n (Nat.add i l)))) (pow2 (Nat.mul w l))
def pkGet (k : PK) (n m i : Nat) : AV := pkm k (bitsAt (pkw k) n m i 1)
def bitsSet (w n m i l x : Nat) : Nat := Nat.sub (Nat.add m (Nat.shiftLeft x (Nat.mul w (Nat.sub n (Nat.add i l))))) (Nat.shiftLeft (bitsAt w n m i l) (Nat.mul w (Nat.sub n (Nat.add i l))))
def ifO (c : Bool) (x : OA) : OA := Bool.rec .no x c
def Blk.get (k : Blk) (o : Nat) : OA := onCP k (fun _ n r => ifO (Nat.ble (Nat.succ o) n) (r.get o)) (fun κ _ n m => ifO (Nat.ble (Nat.succ o) n) (.ok (pkGet κ n m o))) .no
def Blk.getN (k : Blk) (o l : Nat) : OA := onCells k (fun _ n r => ifO (Nat.ble (Nat.add o l) n) (aggO l (r.cut o l))) .no
def cst (v : AV) : Tm → AV := fun _ => v
abbrev E := Tm → St → OA
abbrev G := Tm → AV
def mv (x : G) : E := fun T _ => .ok (x T)
def pick (c a b : G) : E := fun T _ => onB (c T) (fun t => Bool.rec (.ok (b T)) (.ok (a T)) t) .no
def ld1 (x : G) : E := fun T σ => onP (x T) (fun b o => (σ.h.at b).get o) .no
def ldN (n : Nat) (x : G) : E := fun T σ => onP (x T) (fun b o => (σ.h.at b).getN o n) .no
def w64 (r : Nat) : OA := Bool.rec (.ok (normV (.int .i64 (IntKind.wrap .i64 (.ofNat r))))) (.ok (.i64 r)) (Nat.ble r 9223372036854775807)
def w32 (r : Nat) : OA := Bool.rec (.ok (normV (.int .i32 (IntKind.wrap .i32 (.ofNat r))))) (.ok (.i32 r)) (Nat.ble r 2147483647)
def wu64 (r : Nat) : OA := .ok (.u64 (Nat.mod r 18446744073709551616))
def wu8 (r : Nat) : OA := .ok (.u8 (Nat.mod r 256))
def wu32 (r : Nat) : OA := .ok (.u32 (Nat.mod r 4294967296))
def kEqB : IntKind → IntKind → Bool
  | .i64, .i64 => true
  | .u64, .u64 => true
  | .u8, .u8 => true
  | .u32, .u32 => true
  | .i32, .i32 => true
  | _, _ => false
def intV (k : IntKind) (op : BinOp) (a b : Int) : Option Value := match op with
  | .add => some (.int k (k.wrap (a + b)))
  | .sub => some (.int k (k.wrap (a - b)))
  | .lss => some (.bool (decide (a < b)))
  | .leq => some (.bool (decide (a ≤ b)))
  | .gtr => some (.bool (decide (a > b)))
  | .geq => some (.bool (decide (a ≥ b)))
  | .eql => some (.bool (decide (a = b)))
  | .neq => some (.bool (!decide (a = b)))
  | _ => none
def binV (op : BinOp) : Option Value → Option Value → OA
  | some (.int k a), some (.int k' b) => match kEqB k k', intV k op a b with
    | true, some v => .ok (normV v)
    | _, _ => .no
  | _, _ => .no
def binG (op : BinOp) (x y : AV) : OA := binV op x.val y.val
def add_i64 (x y : G) : E := fun T _ => onI64 (x T) (fun a => onI64 (y T) (fun b => w64 (Nat.add a b)) (binG .add (x T) (y T))) (binG .add (x T) (y T))
def sub_i64 (x y : G) : E := fun T _ => onI64 (x T) (fun a => onI64 (y T) (fun b => Bool.rec (binG .sub (x T) (y T)) (.ok (.i64 (Nat.sub a b))) (Nat.ble b a)) (binG .sub (x T) (y T))) (binG .sub (x T) (y T))
def mul_i64 (x y : G) : E := fun T _ => onI64 (x T) (fun a => onI64 (y T) (fun b => w64 (Nat.mul a b)) (binG .mul (x T) (y T))) (binG .mul (x T) (y T))
def quo_i64 (x y : G) : E := fun T _ => onI64 (x T) (fun a => onI64 (y T) (fun b => Bool.rec (.ok (.i64 (Nat.div a b))) .no (Nat.beq b 0)) (binG .quo (x T) (y T))) (binG .quo (x T) (y T))
def rem_i64 (x y : G) : E := fun T _ => onI64 (x T) (fun a => onI64 (y T) (fun b => Bool.rec (.ok (.i64 (Nat.mod a b))) .no (Nat.beq b 0)) (binG .rem (x T) (y T))) (binG .rem (x T) (y T))
def and_i64 (x y : G) : E := fun T _ => onI64 (x T) (fun a => onI64 (y T) (fun b => .ok (.i64 (Nat.land a b))) (binG .and (x T) (y T))) (binG .and (x T) (y T))
def or_i64 (x y : G) : E := fun T _ => onI64 (x T) (fun a => onI64 (y T) (fun b => .ok (.i64 (Nat.lor a b))) (binG .or (x T) (y T))) (binG .or (x T) (y T))
def xor_i64 (x y : G) : E := fun T _ => onI64 (x T) (fun a => onI64 (y T) (fun b => .ok (.i64 (Nat.xor a b))) (binG .xor (x T) (y T))) (binG .xor (x T) (y T))
def lss_i64 (x y : G) : E := fun T _ => onI64 (x T) (fun a => onI64 (y T) (fun b => .ok (.b (Nat.ble (Nat.succ a) b))) (binG .lss (x T) (y T))) (binG .lss (x T) (y T))
def leq_i64 (x y : G) : E := fun T _ => onI64 (x T) (fun a => onI64 (y T) (fun b => .ok (.b (Nat.ble a b))) (binG .leq (x T) (y T))) (binG .leq (x T) (y T))
def gtr_i64 (x y : G) : E := fun T _ => onI64 (x T) (fun a => onI64 (y T) (fun b => .ok (.b (Nat.ble (Nat.succ b) a))) (binG .gtr (x T) (y T))) (binG .gtr (x T) (y T))
def geq_i64 (x y : G) : E := fun T _ => onI64 (x T) (fun a => onI64 (y T) (fun b => .ok (.b (Nat.ble b a))) (binG .geq (x T) (y T))) (binG .geq (x T) (y T))
def eql_i64 (x y : G) : E := fun T _ => onI64 (x T) (fun a => onI64 (y T) (fun b => .ok (.b (Nat.beq a b))) (binG .eql (x T) (y T))) (binG .eql (x T) (y T))
def neq_i64 (x y : G) : E := fun T _ => onI64 (x T) (fun a => onI64 (y T) (fun b => .ok (.b (not (Nat.beq a b)))) (binG .neq (x T) (y T))) (binG .neq (x T) (y T))
def shl_i64 (x y : G) : E := fun T _ => onI64 (x T) (fun a => onNum (y T) (fun b => w64 (Nat.shiftLeft a (Nat.min b 64))) .no) .no
def shr_i64 (x y : G) : E := fun T _ => onI64 (x T) (fun a => onNum (y T) (fun b => .ok (.i64 (Nat.shiftRight a (Nat.min b 64)))) .no) .no
def add_u64 (x y : G) : E := fun T _ => onU64 (x T) (fun a => onU64 (y T) (fun b => wu64 (Nat.add a b)) (binG .add (x T) (y T))) (binG .add (x T) (y T))
def sub_u64 (x y : G) : E := fun T _ => onU64 (x T) (fun a => onU64 (y T) (fun b => Bool.rec (binG .sub (x T) (y T)) (.ok (.u64 (Nat.sub a b))) (Nat.ble b a)) (binG .sub (x T) (y T))) (binG .sub (x T) (y T))
def mul_u64 (x y : G) : E := fun T _ => onU64 (x T) (fun a => onU64 (y T) (fun b => wu64 (Nat.mul a b)) (binG .mul (x T) (y T))) (binG .mul (x T) (y T))
def quo_u64 (x y : G) : E := fun T _ => onU64 (x T) (fun a => onU64 (y T) (fun b => Bool.rec (.ok (.u64 (Nat.div a b))) .no (Nat.beq b 0)) (binG .quo (x T) (y T))) (binG .quo (x T) (y T))
def rem_u64 (x y : G) : E := fun T _ => onU64 (x T) (fun a => onU64 (y T) (fun b => Bool.rec (.ok (.u64 (Nat.mod a b))) .no (Nat.beq b 0)) (binG .rem (x T) (y T))) (binG .rem (x T) (y T))
def and_u64 (x y : G) : E := fun T _ => onU64 (x T) (fun a => onU64 (y T) (fun b => .ok (.u64 (Nat.land a b))) (binG .and (x T) (y T))) (binG .and (x T) (y T))
def or_u64 (x y : G) : E := fun T _ => onU64 (x T) (fun a => onU64 (y T) (fun b => .ok (.u64 (Nat.lor a b))) (binG .or (x T) (y T))) (binG .or (x T) (y T))
def xor_u64 (x y : G) : E := fun T _ => onU64 (x T) (fun a => onU64 (y T) (fun b => .ok (.u64 (Nat.xor a b))) (binG .xor (x T) (y T))) (binG .xor (x T) (y T))
def lss_u64 (x y : G) : E := fun T _ => onU64 (x T) (fun a => onU64 (y T) (fun b => .ok (.b (Nat.ble (Nat.succ a) b))) (binG .lss (x T) (y T))) (binG .lss (x T) (y T))
def leq_u64 (x y : G) : E := fun T _ => onU64 (x T) (fun a => onU64 (y T) (fun b => .ok (.b (Nat.ble a b))) (binG .leq (x T) (y T))) (binG .leq (x T) (y T))
def gtr_u64 (x y : G) : E := fun T _ => onU64 (x T) (fun a => onU64 (y T) (fun b => .ok (.b (Nat.ble (Nat.succ b) a))) (binG .gtr (x T) (y T))) (binG .gtr (x T) (y T))
def geq_u64 (x y : G) : E := fun T _ => onU64 (x T) (fun a => onU64 (y T) (fun b => .ok (.b (Nat.ble b a))) (binG .geq (x T) (y T))) (binG .geq (x T) (y T))
def eql_u64 (x y : G) : E := fun T _ => onU64 (x T) (fun a => onU64 (y T) (fun b => .ok (.b (Nat.beq a b))) (binG .eql (x T) (y T))) (binG .eql (x T) (y T))
def neq_u64 (x y : G) : E := fun T _ => onU64 (x T) (fun a => onU64 (y T) (fun b => .ok (.b (not (Nat.beq a b)))) (binG .neq (x T) (y T))) (binG .neq (x T) (y T))
def shl_u64 (x y : G) : E := fun T _ => onU64 (x T) (fun a => onNum (y T) (fun b => wu64 (Nat.shiftLeft a (Nat.min b 64))) .no) .no
def shr_u64 (x y : G) : E := fun T _ => onU64 (x T) (fun a => onNum (y T) (fun b => .ok (.u64 (Nat.shiftRight a (Nat.min b 64)))) .no) .no
def add_u8 (x y : G) : E := fun T _ => onU8 (x T) (fun a => onU8 (y T) (fun b => wu8 (Nat.add a b)) (binG .add (x T) (y T))) (binG .add (x T) (y T))
def sub_u8 (x y : G) : E := fun T _ => onU8 (x T) (fun a => onU8 (y T) (fun b => Bool.rec (binG .sub (x T) (y T)) (.ok (.u8 (Nat.sub a b))) (Nat.ble b a)) (binG .sub (x T) (y T))) (binG .sub (x T) (y T))
def mul_u8 (x y : G) : E := fun T _ => onU8 (x T) (fun a => onU8 (y T) (fun b => wu8 (Nat.mul a b)) (binG .mul (x T) (y T))) (binG .mul (x T) (y T))
def quo_u8 (x y : G) : E := fun T _ => onU8 (x T) (fun a => onU8 (y T) (fun b => Bool.rec (.ok (.u8 (Nat.div a b))) .no (Nat.beq b 0)) (binG .quo (x T) (y T))) (binG .quo (x T) (y T))
def rem_u8 (x y : G) : E := fun T _ => onU8 (x T) (fun a => onU8 (y T) (fun b => Bool.rec (.ok (.u8 (Nat.mod a b))) .no (Nat.beq b 0)) (binG .rem (x T) (y T))) (binG .rem (x T) (y T))
def and_u8 (x y : G) : E := fun T _ => onU8 (x T) (fun a => onU8 (y T) (fun b => .ok (.u8 (Nat.land a b))) (binG .and (x T) (y T))) (binG .and (x T) (y T))
def or_u8 (x y : G) : E := fun T _ => onU8 (x T) (fun a => onU8 (y T) (fun b => .ok (.u8 (Nat.lor a b))) (binG .or (x T) (y T))) (binG .or (x T) (y T))
def xor_u8 (x y : G) : E := fun T _ => onU8 (x T) (fun a => onU8 (y T) (fun b => .ok (.u8 (Nat.xor a b))) (binG .xor (x T) (y T))) (binG .xor (x T) (y T))
def lss_u8 (x y : G) : E := fun T _ => onU8 (x T) (fun a => onU8 (y T) (fun b => .ok (.b (Nat.ble (Nat.succ a) b))) (binG .lss (x T) (y T))) (binG .lss (x T) (y T))
def leq_u8 (x y : G) : E := fun T _ => onU8 (x T) (fun a => onU8 (y T) (fun b => .ok (.b (Nat.ble a b))) (binG .leq (x T) (y T))) (binG .leq (x T) (y T))
def gtr_u8 (x y : G) : E := fun T _ => onU8 (x T) (fun a => onU8 (y T) (fun b => .ok (.b (Nat.ble (Nat.succ b) a))) (binG .gtr (x T) (y T))) (binG .gtr (x T) (y T))
def geq_u8 (x y : G) : E := fun T _ => onU8 (x T) (fun a => onU8 (y T) (fun b => .ok (.b (Nat.ble b a))) (binG .geq (x T) (y T))) (binG .geq (x T) (y T))
def eql_u8 (x y : G) : E := fun T _ => onU8 (x T) (fun a => onU8 (y T) (fun b => .ok (.b (Nat.beq a b))) (binG .eql (x T) (y T))) (binG .eql (x T) (y T))
def neq_u8 (x y : G) : E := fun T _ => onU8 (x T) (fun a => onU8 (y T) (fun b => .ok (.b (not (Nat.beq a b)))) (binG .neq (x T) (y T))) (binG .neq (x T) (y T))
def shl_u8 (x y : G) : E := fun T _ => onU8 (x T) (fun a => onNum (y T) (fun b => wu8 (Nat.shiftLeft a (Nat.min b 8))) .no) .no
def shr_u8 (x y : G) : E := fun T _ => onU8 (x T) (fun a => onNum (y T) (fun b => .ok (.u8 (Nat.shiftRight a (Nat.min b 8)))) .no) .no
def add_u32 (x y : G) : E := fun T _ => onU32 (x T) (fun a => onU32 (y T) (fun b => wu32 (Nat.add a b)) (binG .add (x T) (y T))) (binG .add (x T) (y T))
def sub_u32 (x y : G) : E := fun T _ => onU32 (x T) (fun a => onU32 (y T) (fun b => Bool.rec (binG .sub (x T) (y T)) (.ok (.u32 (Nat.sub a b))) (Nat.ble b a)) (binG .sub (x T) (y T))) (binG .sub (x T) (y T))
def mul_u32 (x y : G) : E := fun T _ => onU32 (x T) (fun a => onU32 (y T) (fun b => wu32 (Nat.mul a b)) (binG .mul (x T) (y T))) (binG .mul (x T) (y T))
def quo_u32 (x y : G) : E := fun T _ => onU32 (x T) (fun a => onU32 (y T) (fun b => Bool.rec (.ok (.u32 (Nat.div a b))) .no (Nat.beq b 0)) (binG .quo (x T) (y T))) (binG .quo (x T) (y T))
def rem_u32 (x y : G) : E := fun T _ => onU32 (x T) (fun a => onU32 (y T) (fun b => Bool.rec (.ok (.u32 (Nat.mod a b))) .no (Nat.beq b 0)) (binG .rem (x T) (y T))) (binG .rem (x T) (y T))
def and_u32 (x y : G) : E := fun T _ => onU32 (x T) (fun a => onU32 (y T) (fun b => .ok (.u32 (Nat.land a b))) (binG .and (x T) (y T))) (binG .and (x T) (y T))
def or_u32 (x y : G) : E := fun T _ => onU32 (x T) (fun a => onU32 (y T) (fun b => .ok (.u32 (Nat.lor a b))) (binG .or (x T) (y T))) (binG .or (x T) (y T))
def xor_u32 (x y : G) : E := fun T _ => onU32 (x T) (fun a => onU32 (y T) (fun b => .ok (.u32 (Nat.xor a b))) (binG .xor (x T) (y T))) (binG .xor (x T) (y T))
def lss_u32 (x y : G) : E := fun T _ => onU32 (x T) (fun a => onU32 (y T) (fun b => .ok (.b (Nat.ble (Nat.succ a) b))) (binG .lss (x T) (y T))) (binG .lss (x T) (y T))
def leq_u32 (x y : G) : E := fun T _ => onU32 (x T) (fun a => onU32 (y T) (fun b => .ok (.b (Nat.ble a b))) (binG .leq (x T) (y T))) (binG .leq (x T) (y T))
def gtr_u32 (x y : G) : E := fun T _ => onU32 (x T) (fun a => onU32 (y T) (fun b => .ok (.b (Nat.ble (Nat.succ b) a))) (binG .gtr (x T) (y T))) (binG .gtr (x T) (y T))
def geq_u32 (x y : G) : E := fun T _ => onU32 (x T) (fun a => onU32 (y T) (fun b => .ok (.b (Nat.ble b a))) (binG .geq (x T) (y T))) (binG .geq (x T) (y T))
def eql_u32 (x y : G) : E := fun T _ => onU32 (x T) (fun a => onU32 (y T) (fun b => .ok (.b (Nat.beq a b))) (binG .eql (x T) (y T))) (binG .eql (x T) (y T))
def neq_u32 (x y : G) : E := fun T _ => onU32 (x T) (fun a => onU32 (y T) (fun b => .ok (.b (not (Nat.beq a b)))) (binG .neq (x T) (y T))) (binG .neq (x T) (y T))
def shl_u32 (x y : G) : E := fun T _ => onU32 (x T) (fun a => onNum (y T) (fun b => wu32 (Nat.shiftLeft a (Nat.min b 32))) .no) .no
def shr_u32 (x y : G) : E := fun T _ => onU32 (x T) (fun a => onNum (y T) (fun b => .ok (.u32 (Nat.shiftRight a (Nat.min b 32)))) .no) .no
def add_i32 (x y : G) : E := fun T _ => onI32 (x T) (fun a => onI32 (y T) (fun b => w32 (Nat.add a b)) (binG .add (x T) (y T))) (binG .add (x T) (y T))
def sub_i32 (x y : G) : E := fun T _ => onI32 (x T) (fun a => onI32 (y T) (fun b => Bool.rec (binG .sub (x T) (y T)) (.ok (.i32 (Nat.sub a b))) (Nat.ble b a)) (binG .sub (x T) (y T))) (binG .sub (x T) (y T))
def mul_i32 (x y : G) : E := fun T _ => onI32 (x T) (fun a => onI32 (y T) (fun b => w32 (Nat.mul a b)) (binG .mul (x T) (y T))) (binG .mul (x T) (y T))
def quo_i32 (x y : G) : E := fun T _ => onI32 (x T) (fun a => onI32 (y T) (fun b => Bool.rec (.ok (.i32 (Nat.div a b))) .no (Nat.beq b 0)) (binG .quo (x T) (y T))) (binG .quo (x T) (y T))
def rem_i32 (x y : G) : E := fun T _ => onI32 (x T) (fun a => onI32 (y T) (fun b => Bool.rec (.ok (.i32 (Nat.mod a b))) .no (Nat.beq b 0)) (binG .rem (x T) (y T))) (binG .rem (x T) (y T))
def and_i32 (x y : G) : E := fun T _ => onI32 (x T) (fun a => onI32 (y T) (fun b => .ok (.i32 (Nat.land a b))) (binG .and (x T) (y T))) (binG .and (x T) (y T))
def or_i32 (x y : G) : E := fun T _ => onI32 (x T) (fun a => onI32 (y T) (fun b => .ok (.i32 (Nat.lor a b))) (binG .or (x T) (y T))) (binG .or (x T) (y T))
def xor_i32 (x y : G) : E := fun T _ => onI32 (x T) (fun a => onI32 (y T) (fun b => .ok (.i32 (Nat.xor a b))) (binG .xor (x T) (y T))) (binG .xor (x T) (y T))
def lss_i32 (x y : G) : E := fun T _ => onI32 (x T) (fun a => onI32 (y T) (fun b => .ok (.b (Nat.ble (Nat.succ a) b))) (binG .lss (x T) (y T))) (binG .lss (x T) (y T))
def leq_i32 (x y : G) : E := fun T _ => onI32 (x T) (fun a => onI32 (y T) (fun b => .ok (.b (Nat.ble a b))) (binG .leq (x T) (y T))) (binG .leq (x T) (y T))
def gtr_i32 (x y : G) : E := fun T _ => onI32 (x T) (fun a => onI32 (y T) (fun b => .ok (.b (Nat.ble (Nat.succ b) a))) (binG .gtr (x T) (y T))) (binG .gtr (x T) (y T))
def geq_i32 (x y : G) : E := fun T _ => onI32 (x T) (fun a => onI32 (y T) (fun b => .ok (.b (Nat.ble b a))) (binG .geq (x T) (y T))) (binG .geq (x T) (y T))
def eql_i32 (x y : G) : E := fun T _ => onI32 (x T) (fun a => onI32 (y T) (fun b => .ok (.b (Nat.beq a b))) (binG .eql (x T) (y T))) (binG .eql (x T) (y T))
def neq_i32 (x y : G) : E := fun T _ => onI32 (x T) (fun a => onI32 (y T) (fun b => .ok (.b (not (Nat.beq a b)))) (binG .neq (x T) (y T))) (binG .neq (x T) (y T))
def shl_i32 (x y : G) : E := fun T _ => onI32 (x T) (fun a => onNum (y T) (fun b => w32 (Nat.shiftLeft a (Nat.min b 32))) .no) .no
def shr_i32 (x y : G) : E := fun T _ => onI32 (x T) (fun a => onNum (y T) (fun b => .ok (.i32 (Nat.shiftRight a (Nat.min b 32)))) .no) .no
def sCut (n len lo hi : Nat) : Nat := bitsAt 8 len n lo (Nat.sub hi lo)
def add_s (x y : G) : E := fun T _ => onS (x T) (fun l a => onS (y T) (fun m b => ifO (Nat.ble (Nat.add l m) 9223372036854775807) (.ok (.s (Nat.add l m) (Nat.add (Nat.shiftLeft a (Nat.mul 8 m)) b)))) .no) .no
def eqSB (l a m b : Nat) : Bool := Bool.rec false (Nat.beq a b) (Nat.beq l m)
def eql_s (x y : G) : E := fun T _ => onS (x T) (fun l a => onS (y T) (fun m b => .ok (.b (eqSB l a m b))) .no) .no
def neq_s (x y : G) : E := fun T _ => onS (x T) (fun l a => onS (y T) (fun m b => .ok (.b (not (eqSB l a m b)))) .no) .no
def lsS (l a m b : Nat) : Bool := (fun x y => Bool.rec (Bool.rec false (Nat.ble (Nat.succ l) m) (Nat.beq x y)) true (Nat.ble (Nat.succ x) y)) (Nat.shiftLeft a (Nat.mul 8 (Nat.sub (Nat.max l m) l))) (Nat.shiftLeft b (Nat.mul 8 (Nat.sub (Nat.max l m) m)))
def lss_s (x y : G) : E := fun T _ => onS (x T) (fun l a => onS (y T) (fun m b => .ok (.b (lsS l a m b))) .no) .no
def gtr_s (x y : G) : E := fun T _ => onS (x T) (fun l a => onS (y T) (fun m b => .ok (.b (lsS m b l a))) .no) .no
def leq_s (x y : G) : E := fun T _ => onS (x T) (fun l a => onS (y T) (fun m b => .ok (.b (not (lsS m b l a)))) .no) .no
def geq_s (x y : G) : E := fun T _ => onS (x T) (fun l a => onS (y T) (fun m b => .ok (.b (not (lsS l a m b)))) .no) .no
def eqBB (a b : Bool) : Bool := Bool.rec (not b) b a
def eql_b (x y : G) : E := fun T _ => onB (x T) (fun a => onB (y T) (fun b => .ok (.b (eqBB a b))) .no) .no
def neq_b (x y : G) : E := fun T _ => onB (x T) (fun a => onB (y T) (fun b => .ok (.b (not (eqBB a b)))) .no) .no
inductive OB where
  | no
  | ok (b : Bool)
def vP0 : Value → Bool
  | .pointer none => true
  | _ => false
def vSl : Value → Bool
  | .slice none _ _ => true
  | _ => false
def vSl0 : Value → Bool
  | .slice none 0 _ => true
  | _ => false
def vSl00 : Value → Bool
  | .slice none 0 0 => true
  | _ => false
def vMp0 : Value → Bool
  | .map none => true
  | _ => false
def vNI : Value → Bool
  | .nilIface => true
  | _ => false
def nilP (x : AV) : OB := AV.rec (motive_1 := fun _ => OB) (motive_2 := fun _ => Unit) (motive_3 := fun _ => Unit) (fun _ => .no) (fun _ => .no) (fun _ => .no) (fun _ => .no) (fun _ => .no) (fun _ => .no) (fun _ _ => .no) (fun v => Bool.rec .no (.ok true) (vP0 v)) (fun _ _ => .ok false) (fun _ _ _ _ _ _ => .no) (fun _ _ _ => .no) (fun _ => .no) (fun _ _ _ => .no) (fun _ _ _ => .no) (fun _ _ => .no) () (fun _ _ _ _ => ()) () (fun _ _ _ _ _ _ _ _ _ _ _ _ _ _ _ _ => ()) (fun _ _ _ _ _ _ _ _ _ _ _ _ _ _ _ _ _ => ()) x
def nilS (x : AV) : OB := AV.rec (motive_1 := fun _ => OB) (motive_2 := fun _ => Unit) (motive_3 := fun _ => Unit) (fun _ => .no) (fun _ => .no) (fun _ => .no) (fun _ => .no) (fun _ => .no) (fun _ => .no) (fun _ _ => .no) (fun v => Bool.rec .no (.ok true) (vSl v)) (fun _ _ => .no) (fun _ _ _ _ _ _ => .ok false) (fun _ _ _ => .no) (fun _ => .no) (fun _ _ _ => .no) (fun _ _ _ => .no) (fun _ _ => .no) () (fun _ _ _ _ => ()) () (fun _ _ _ _ _ _ _ _ _ _ _ _ _ _ _ _ => ()) (fun _ _ _ _ _ _ _ _ _ _ _ _ _ _ _ _ _ => ()) x
def nilM (x : AV) : OB := AV.rec (motive_1 := fun _ => OB) (motive_2 := fun _ => Unit) (motive_3 := fun _ => Unit) (fun _ => .no) (fun _ => .no) (fun _ => .no) (fun _ => .no) (fun _ => .no) (fun _ => .no) (fun _ _ => .no) (fun v => Bool.rec .no (.ok true) (vMp0 v)) (fun _ _ => .no) (fun _ _ _ _ _ _ => .no) (fun _ _ _ => .no) (fun _ => .ok false) (fun _ _ _ => .no) (fun _ _ _ => .no) (fun _ _ => .no) () (fun _ _ _ _ => ()) () (fun _ _ _ _ _ _ _ _ _ _ _ _ _ _ _ _ => ()) (fun _ _ _ _ _ _ _ _ _ _ _ _ _ _ _ _ _ => ()) x
def eqNil (neg : Bool) (x y : OB) : OA := OB.rec (motive := fun _ => OA) .no (fun a => OB.rec (motive := fun _ => OA) .no (fun b => Bool.rec (Bool.rec .no (.ok (.b neg)) b) (Bool.rec (.ok (.b neg)) (.ok (.b (not neg))) b) a) y) x
def eql_p (x y : G) : E := fun T _ => eqNil false (nilP (x T)) (nilP (y T))
def neq_p (x y : G) : E := fun T _ => eqNil true (nilP (x T)) (nilP (y T))
def eql_l (x y : G) : E := fun T _ => eqNil false (nilS (x T)) (nilS (y T))
def neq_l (x y : G) : E := fun T _ => eqNil true (nilS (x T)) (nilS (y T))
def eql_m (x y : G) : E := fun T _ => eqNil false (nilM (x T)) (nilM (y T))
def neq_m (x y : G) : E := fun T _ => eqNil true (nilM (x T)) (nilM (y T))
inductive EK where
  | i64 | u64 | u8 | b | s
inductive EL where
  | nil
  | cons (o : Nat) (k : EK) (r : EL)
def eqC (k : EK) (x y : AV) : OB := EK.rec (motive := fun _ => AV → AV → OB)
  (fun x y => onI64 x (fun a => onI64 y (fun b => .ok (Nat.beq a b)) .no) .no) (fun x y => onU64 x (fun a => onU64 y (fun b => .ok (Nat.beq a b)) .no) .no)
  (fun x y => onU8 x (fun a => onU8 y (fun b => .ok (Nat.beq a b)) .no) .no) (fun x y => onB x (fun a => onB y (fun b => .ok (eqBB a b)) .no) .no)
  (fun x y => onS x (fun l a => onS y (fun m b => .ok (eqSB l a m b)) .no) .no) k x y
def eqR (l : EL) (n m : Nat) (r q : Row) : OB := EL.rec (motive := fun _ => OB) (.ok true)
  (fun o k _ ih => Bool.rec .no (OA.rec (motive := fun _ => OB) .no (fun x => OA.rec (motive := fun _ => OB) .no (fun y => OB.rec (motive := fun _ => OB) .no (fun b => Bool.rec (.ok false) ih b) (eqC k x y)) (q.get o)) (r.get o)) (Nat.ble (Nat.succ o) n && Nat.ble (Nat.succ o) m)) l
def eqA (neg : Bool) (l : EL) (x y : AV) : OA := onAgg x (fun n r => onAgg y (fun m q => OB.rec (motive := fun _ => OA) .no (fun b => .ok (.b (Bool.rec b (not b) neg))) (eqR l n m r q)) .no) .no
def eql_a (l : EL) (x y : G) : E := fun T _ => eqA false l (x T) (y T)
def neq_a (l : EL) (x y : G) : E := fun T _ => eqA true l (x T) (y T)
def not_b (x : G) : E := fun T _ => onB (x T) (fun b => .ok (.b (not b))) .no
def neg_i (x : G) : E := fun T _ => OA.bind (binG .sub (.i64 0) (x T)) .ok
def neg_u32 (x : G) : E := fun T _ => onU32 (x T) (fun a => wu32 (Nat.sub 4294967296 a)) .no
def neg_u64 (x : G) : E := fun T _ => onU64 (x T) (fun a => wu64 (Nat.sub 18446744073709551616 a)) .no
def com_u64 (x : G) : E := fun T _ => onU64 (x T) (fun a => .ok (.u64 (Nat.sub 18446744073709551615 a))) .no
def com_u32 (x : G) : E := fun T _ => onU32 (x T) (fun a => .ok (.u32 (Nat.sub 4294967295 a))) .no
def comV : Option Value → OA
  | some (.int .i64 n) => .ok (normV (.int .i64 (IntKind.wrap .i64 (-n - 1))))
  | _ => .no
def com_i64 (x : G) : E := fun T _ => comV (x T).val
def cvG (k : IntKind) : Option Value → OA
  | some (.int _ n) => .ok (normV (.int k (k.wrap n)))
  | _ => .no
def cv_i64 (x : G) : E := fun T _ => onNum (x T) w64 (cvG .i64 (x T).val)
def cv_i32 (x : G) : E := fun T _ => onNum (x T) w32 (cvG .i32 (x T).val)
def cv_u64 (x : G) : E := fun T _ => onNum (x T) wu64 (cvG .u64 (x T).val)
def cv_u32 (x : G) : E := fun T _ => onNum (x T) wu32 (cvG .u32 (x T).val)
def cv_u8 (x : G) : E := fun T _ => onNum (x T) wu8 (cvG .u8 (x T).val)
def pkN (k : PK) (σ : St) (x : AV) (f : Nat → Nat → OA) : OA := onSl x (fun b o l _ _ _ => onPk (σ.h.at b) (fun κ _ n m => ifO (pkEq k κ && Nat.ble (Nat.add o l) n) (f l (bitsAt (pkw k) n m o l))) .no) (onLit x (fun v => ifO (vSl0 v) (f 0 0)) .no)
def cv_str (x : G) : E := fun T σ => pkN .u8 σ (x T) (fun l m => .ok (.s l m))
def cv_st (x : G) : E := fun T _ => onS (x T) (fun _ _ => .ok (x T)) .no
def mkI (t : TypeId) (x : G) : E := fun T _ => .ok (.iface t (x T))
def mkF (f : FuncId) (caps : Tm → AVs) : E := fun T _ => .ok (.fn f (caps T))
def nilc (x : G) : E := fun T _ => onP (x T) (fun _ _ => .ok (x T)) (onFn (x T) (fun _ _ => .ok (x T)) .no)
def fad (o : Nat) (x : G) : E := fun T _ => onP (x T) (fun b q => .ok (.p b (Nat.add q o))) .no
def fld1 (o : Nat) (x : G) : E := fun T _ => onAgg (x T) (fun m r => ifO (Nat.ble (Nat.succ o) m) (r.get o)) .no
def fldN (o n : Nat) (x : G) : E := fun T _ => onAgg (x T) (fun m r => ifO (Nat.ble (Nat.add o n) m) (aggO n (r.cut o n))) .no
def iad_s (w : Nat) (x i : G) : E := fun T _ => onSl (x T) (fun b o l _ _ _ => onNum (i T) (fun i => ifO (Nat.ble (Nat.succ i) l) (.ok (.p b (Nat.add o (Nat.mul i w))))) .no) .no
def iad_a (n w : Nat) (x i : G) : E := fun T _ => onP (x T) (fun b o => onNum (i T) (fun i => ifO (Nat.ble (Nat.succ i) n) (.ok (.p b (Nat.add o (Nat.mul i w))))) .no) .no
def ix_s (x i : G) : E := fun T _ => onS (x T) (fun l a => onNum (i T) (fun i => ifO (Nat.ble (Nat.succ i) l) (.ok (.u8 (bitsAt 8 l a i 1)))) .no) .no
def ix_a1 (n : Nat) (x i : G) : E := fun T _ => onAgg (x T) (fun m r => onNum (i T) (fun i => ifO (Nat.beq m n) (ifO (Nat.ble (Nat.succ i) n) (r.get i))) .no) .no
def ix_aN (n w : Nat) (x i : G) : E := fun T _ => onAgg (x T) (fun m r => onNum (i T) (fun i => ifO (Nat.beq m (Nat.mul n w)) (ifO (Nat.ble (Nat.succ i) n) (aggO w (r.cut (Nat.mul i w) w)))) .no) .no
def Ents.len (e : Ents) : Nat := Ents.rec 0 (fun _ _ _ _ ih => Nat.succ ih) e
def len_s (x : G) : E := fun T _ => onS (x T) (fun l _ => .ok (.i64 l)) .no
def len_l (x : G) : E := fun T _ => onSl (x T) (fun _ _ l _ _ _ => .ok (.i64 l)) (onLit (x T) (fun v => ifO (vSl0 v) (.ok (.i64 0))) .no)
def len_m (x : G) : E := fun T σ => onMp (x T) (fun b => onMap (σ.h.at b) (fun es _ => ifO (Nat.ble es.len 9223372036854775807) (.ok (.i64 es.len))) .no) (onLit (x T) (fun v => ifO (vMp0 v) (.ok (.i64 0))) .no)
def lenC (n : Nat) : E := fun _ _ => .ok (.i64 n)
def capA (x : G) : E := fun T _ => onSl (x T) (fun _ _ _ c _ kn => Bool.rec .no (.ok (.i64 c)) kn) (onLit (x T) (fun v => ifO (vSl00 v) (.ok (.i64 0))) .no)
def orN (hi : Option G) (T : Tm) (d : Nat) (k : Nat → OA) : OA := Option.rec (k d) (fun h => onNum (h T) k .no) hi
def sl_s (x lo : G) (hi : Option G) : E := fun T _ => onS (x T) (fun l a => onNum (lo T) (fun lo => orN hi T l (fun hi => ifO (Nat.ble lo hi) (ifO (Nat.ble hi l) (.ok (.s (Nat.sub hi lo) (sCut a l lo hi)))))) .no) .no
def sl_l (w : Nat) (x lo : G) (hi : Option G) : E := fun T _ => onSl (x T) (fun b o l c w' kn => onNum (lo T) (fun lo => orN hi T l (fun hi => ifO (Nat.beq w w') (ifO (Nat.ble lo hi) (ifO (Nat.ble hi c) (.ok (.sl b (Nat.add o (Nat.mul lo w)) (Nat.sub hi lo) (Nat.sub c lo) w kn)))))) .no)
  (onLit (x T) (fun v => ifO (vSl0 v) (onNum (lo T) (fun lo => ifO (Nat.beq lo 0) (orN hi T 0 (fun hi => ifO (Nat.beq hi 0) (.ok (.lit v))))) .no)) .no)
def sl_m (w : Nat) (x lo hi mx : G) : E := fun T _ => onSl (x T) (fun b o _ c w' _ => onNum (lo T) (fun lo => onNum (hi T) (fun hi => onNum (mx T) (fun m => ifO (Nat.beq w w' && Nat.ble lo hi) (ifO (Nat.ble hi m) (ifO (Nat.ble m c) (.ok (.sl b (Nat.add o (Nat.mul lo w)) (Nat.sub hi lo) (Nat.sub m lo) w true))))) .no) .no) .no) .no
def sl_a (n w : Nat) (x lo : G) (hi : Option G) : E := fun T σ => onP (x T) (fun b o => onCells (σ.h.at b) (fun _ N _ => ifO (Nat.ble (Nat.add o (Nat.mul n w)) N) (onNum (lo T) (fun lo => orN hi T n (fun hi => ifO (Nat.ble lo hi) (ifO (Nat.ble hi n) (.ok (.sl b (Nat.add o (Nat.mul lo w)) (Nat.sub hi lo) (Nat.sub n lo) w true))))) .no)) .no) .no
inductive OL where
  | bad
  | none
  | some (v : AV)
def keyEqS (x y : AV) : OB := onS x (fun l a => onS y (fun m b => .ok (eqSB l a m b)) .no) .no
def keyEqI (x y : AV) : OB := onI64 x (fun a => onI64 y (fun b => .ok (Nat.beq a b)) .no) .no
def keyE (ks : Bool) (x y : AV) : OB := Bool.rec (keyEqI x y) (keyEqS x y) ks
def Ents.look (ks : Bool) (e : Ents) (k : AV) : OL := Ents.rec (motive := fun _ => OL) .none (fun k' v _ _ ih => OB.rec (motive := fun _ => OL) .bad (fun b => Bool.rec ih (.some v) b) (keyE ks k k')) e
inductive OE where
  | bad
  | none
  | some (e : Ents)
def Ents.upd (ks : Bool) (e : Ents) (k v : AV) : OE := Ents.rec (motive := fun _ => OE) .none (fun k' u n r ih => OB.rec (motive := fun _ => OE) .bad (fun b => Bool.rec (OE.rec (motive := fun _ => OE) .bad .none (fun r => .some (.cons k' u n r)) ih) (.some (.cons k v n r)) b) (keyE ks k k')) e
def Ents.del (ks : Bool) (e : Ents) (k : AV) : OE := Ents.rec (motive := fun _ => OE) .none (fun k' u n r ih => OB.rec (motive := fun _ => OE) .bad (fun b => Bool.rec (OE.rec (motive := fun _ => OE) .bad .none (fun r => .some (.cons k' u n r)) ih) (.some r) b) (keyE ks k k')) e
def Ents.snoc (e : Ents) (k v : AV) (c : Nat) : Ents := Ents.rec (motive := fun _ => Ents) (.cons k v c .nil) (fun k' u n _ ih => .cons k' u n ih) e
def mapOf {α : Type} (σ : St) (x : AV) (k : Bid → Ents → Nat → α) (z : α) : α := onMp x (fun b => onMap (σ.h.at b) (fun es c => k b es c) z) z
def okKey (ks : Bool) (k : AV) : Bool := Bool.rec (onI64 k (fun _ => true) false) (onS k (fun _ _ => true) false) ks
def okT (ok f : Bool) (v : AV) : AV := Bool.rec v (.tup (.cons v (.cons (.b f) .nil))) ok
def lookF (ok : Bool) (z : AV) (r : OL) : OA := OL.rec (motive := fun _ => OA) .no (.ok (okT ok false z)) (fun v => .ok (okT ok true v)) r
def lkp (ks : Bool) (z : AV) (x k : G) (ok : Bool) : E := fun T σ => ifO (okKey ks (k T)) (mapOf σ (x T) (fun _ es _ => lookF ok z (es.look ks (k T))) (onLit (x T) (fun v => ifO (vMp0 v) (.ok (okT ok false z))) .no))
def tas (t : TypeId) (z : AV) (ok : Bool) (x : G) : E := fun T _ => onIface (x T) (fun u v => Bool.rec (Bool.rec .no (.ok (.tup (.cons z (.cons (.b false) .nil)))) ok) (.ok (Bool.rec v (.tup (.cons v (.cons (.b true) .nil))) ok)) (Nat.beq u t)) (Bool.rec .no (onLit (x T) (fun v => ifO (vNI v) (.ok (.tup (.cons z (.cons (.b false) .nil))))) .no) ok)
def AVs.nth (l : AVs) (i : Nat) : OA := AVs.rec (motive_1 := fun _ => Unit) (motive_2 := fun _ => Nat → OA) (motive_3 := fun _ => Unit) (fun _ => ()) (fun _ => ()) (fun _ => ()) (fun _ => ()) (fun _ => ()) (fun _ => ()) (fun _ _ => ()) (fun _ => ()) (fun _ _ => ()) (fun _ _ _ _ _ _ => ()) (fun _ _ _ => ()) (fun _ => ()) (fun _ _ _ => ()) (fun _ _ _ => ()) (fun _ _ => ()) (fun _ => .no) (fun v _ _ ih i => Nat.rec (.ok v) (fun i _ => ih i) i) () (fun _ _ _ _ _ _ _ _ _ _ _ _ _ _ _ _  => ()) (fun _ _ _ _ _ _ _ _ _ _ _ _ _ _ _ _ _  => ()) l i
def ext (i : Nat) (x : G) : E := fun T _ => onTup (x T) (fun l => l.nth i) .no
def mmA (mx : Bool) (x y : G) : E := fun T _ => onI64 (x T) (fun a => onI64 (y T) (fun b => .ok (.i64 (Bool.rec (Bool.rec a b (Nat.ble (Nat.succ b) a)) (Bool.rec a b (Nat.ble (Nat.succ a) b)) mx))) .no) .no
abbrev R := Tm → St → RA
inductive NB where
  | no
  | ok (k : Blk) (f : Bid → AV)
abbrev N := Tm → NB
def ptrA (b : Bid) : AV := .p b 0
def notLast (b : Bid) : Bool := Bid.rec (motive := fun _ => Bool) (fun a _ _ _ _ => D16.rec (motive := fun _ => Bool) true true true true true true true true true true true true true true true false a) b
def alR (σ : St) (k : Blk) (f : Bid → AV) : RA := Bool.rec .no (.ok (f σ.nx) (σ.new k)) (notLast σ.nx)
def newP (σ : St) (k : Blk) : RA := alR σ k ptrA
def al (t n : Nat) (z : Row) : N := fun _ => .ok (.cells t n z) ptrA
def ifN (c : Bool) (x : NB) : NB := Bool.rec .no x c
def bx1 (t : Nat) (x : G) : N := fun T => ifN (oneC (x T)) (.ok (.cells t 1 (.l (x T) undefA undefA undefA undefA undefA undefA undefA)) ptrA)
def bxN (t n : Nat) (x : G) : N := fun T => onAgg (x T) (fun m r => Bool.rec .no (.ok (.cells t n r) ptrA) (Nat.beq m n)) .no
inductive PL where
  | nil
  | one (o : Nat) (x : G) (r : PL)
  | many (o n : Nat) (x : G) (r : PL)
def fillR (l : PL) (T : Tm) (z : Row) : OR := PL.rec (motive := fun _ => Row → OR) (fun z => .ok z) (fun o x _ ih z => Bool.rec .no (ih (z.set 0 o (x T))) (oneC (x T)))
  (fun o n x _ ih z => onAgg (x T) (fun m r => Bool.rec .no (OR.rec (motive := fun _ => OR) .no ih (Row.copy n z o r 0)) (Nat.beq m n)) .no) l z
def bld (n : Nat) (z : Row) (l : PL) : E := fun T _ => aggO n (fillR l T z)
def slB (l c w : Nat) (b : Bid) : AV := .sl b 0 l c w true
def bsl (t len w : Nat) (z : Row) (l : PL) : N := fun T => OR.rec (motive := fun _ => NB) .no (fun r => .ok (.cells t (Nat.mul len w) r) (slB len len w)) (fillR l T z)
def RAofN (r : OA) (f : AV → RA) : RA := OA.rec (motive := fun _ => RA) .no f r
def negN : Option Value → OA
  | some (.int .i64 a) => if IntKind.wrap .i64 (.ofNat (a % 18446744073709551616).toNat) = a then .ok (.i64 (a % 18446744073709551616).toNat) else .no
  | _ => .no
def pkNum (k : PK) (v : AV) : OA := PK.rec (motive := fun _ => AV → OA) (fun v => onB v (fun b => .ok (.i64 (Bool.rec 0 1 b))) .no) (fun v => onU8 v (fun n => .ok (.i64 n)) .no) (fun v => onI64 v (fun n => .ok (.i64 n)) (negN v.val)) (fun v => onU64 v (fun n => .ok (.i64 n)) .no) (fun v => onI32 v (fun n => .ok (.i64 n)) .no) (fun v => onU32 v (fun n => .ok (.i64 n)) .no) k v
def pkFill (k : PK) (w : Nat) (l : PL) (T : Tm) (acc : Nat) : OA := PL.rec (motive := fun _ => Nat → OA) (fun n => .ok (.i64 n)) (fun _ x _ ih acc => OA.bind (pkNum k (x T)) fun v => onI64 v (fun n => ih (Nat.add (Nat.shiftLeft acc w) n)) .no) (fun _ _ _ _ _ _ => .no) l acc
def NBof (r : OA) (f : Nat → NB) : NB := OA.rec (motive := fun _ => NB) .no (fun v => onI64 v f .no) r
def bslk (k : PK) (t len : Nat) (l : PL) : N := fun T => NBof (pkFill k (pkw k) l T 0) fun m => .ok (.pk k t len m) (slB len len 1)
def rowRep (n w : Nat) (z : Row) : OR := Nat.rec (motive := fun _ => OR) (.ok .e) (fun i ih => OR.rec (motive := fun _ => OR) .no (fun r => Row.copy w r (Nat.mul i w) z 0) ih) n
def msl (t w by_ : Nat) (z : Row) (l c : G) : N := fun T => onNum (l T) (fun n => onNum (c T) (fun c => ifN (Nat.ble n c) (ifN (Nat.ble (Nat.mul by_ c) 281474976710656) (OR.rec (motive := fun _ => NB) .no (fun r => .ok (.cells t (Nat.mul c w) r) (slB n c w)) (rowRep c w z)))) .no) .no
def mslk (k : PK) (t by_ : Nat) (l c : G) : N := fun T => onNum (l T) (fun n => onNum (c T) (fun c => ifN (Nat.ble n c) (ifN (Nat.ble (Nat.mul by_ c) 281474976710656) (.ok (.pk k t c 0) (slB n c 1)))) .no) .no
def mmp : N := fun _ => .ok (.map .nil 0) .mp
def slU (l : Nat) (b : Bid) : AV := .sl b 0 l l 1 false
def slW (l w : Nat) (b : Bid) : AV := .sl b 0 l l w false
def cv_bs (t : Nat) (x : G) : N := fun T => onS (x T) (fun l m => .ok (.pk .u8 t l m) (slU l)) .no
def rng (x : G) : N := fun T => onS (x T) (fun l m => .ok (.siter l m 0) ptrA) .no
def okS (s : OS) : RA := OS.rec (motive := fun _ => RA) .no (fun σ => .ok undefA σ) s
def okV (v : AV) (s : OS) : RA := OS.rec (motive := fun _ => RA) .no (fun σ => .ok v σ) s
def st1 (a x : G) : R := fun T σ => onP (a T) (fun b o => onCP (σ.h.at b) (fun t n r => Bool.rec .no (.ok undefA (σ.put b (.cells t n (r.set 0 o (x T))))) (Nat.ble (Nat.succ o) n && oneC (x T)))
  (fun k t n m => Bool.rec .no (RAofN (pkNum k (x T)) fun v => onI64 v (fun y => .ok undefA (σ.put b (.pk k t n (bitsSet (pkw k) n m o 1 y)))) .no) (Nat.ble (Nat.succ o) n)) .no) .no
def stRow (σ : St) (b : Bid) (o : Nat) (l : Nat) (q : Row) (qo : Nat) (v : AV) : RA := onCells (σ.h.at b)
  (fun t n r => Bool.rec .no (OR.rec (motive := fun _ => RA) .no (fun r => .ok v (σ.put b (.cells t n r))) (Bool.rec (Row.copy l r o q qo) (.ok q) (Nat.beq o qo && Nat.beq l n && Nat.beq o 0))) (Nat.ble (Nat.add o l) n)) .no
def stN (n : Nat) (a x : G) : R := fun T σ => onP (a T) (fun b o => onAgg (x T) (fun m r => Bool.rec .no (stRow σ b o m r 0 undefA) (Nat.beq m n)) .no) .no
def cv_ss (x : G) : R := fun T σ => onSl (x T) (fun b _ _ _ _ _ => onPk (σ.h.at b) (fun _ _ _ _ => .ok (x T) σ) .no) .no
def mup (ks : Bool) (m k x : G) : R := fun T σ => Bool.rec .no (mapOf σ (m T) (fun b es c => OE.rec (motive := fun _ => RA) .no (.ok undefA (σ.put b (.map (es.snoc (k T) (x T) c) (Nat.succ c)))) (fun es => .ok undefA (σ.put b (.map es c))) (es.upd ks (k T) (x T))) .no) (okKey ks (k T))
def unitA : AV := .lit (.tuple #[])
def dlt (ks : Bool) (m k : G) : R := fun T σ => Bool.rec .no (mapOf σ (m T) (fun b es c => OE.rec (motive := fun _ => RA) .no (.ok unitA σ) (fun es => .ok unitA (σ.put b (.map es c))) (es.del ks (k T))) .no) (okKey ks (k T))
def nxt (x : G) : R := fun T σ => onP (x T) (fun b o => onSiter (σ.h.at b) (fun l n q => Bool.rec .no (Bool.rec (.ok (.tup (.cons (.b false) .nil)) σ)
  ((fun c => Bool.rec .no (.ok (.tup (.cons (.b true) (.cons (.i64 q) (.cons (.i32 c) .nil)))) (σ.put b (.siter l n (Nat.succ q)))) (Nat.ble c 127)) (bitsAt 8 l n q 1)) (Nat.ble (Nat.succ q) l)) (Nat.beq o 0)) .no) .no
def rowSrc (w : Nat) (σ : St) (x : AV) (f : Row → Nat → Nat → RA) : RA := onSl x (fun b o l _ _ _ => onCells (σ.h.at b) (fun _ n r => Bool.rec .no (f r o l) (Nat.ble (Nat.add o (Nat.mul l w)) n)) .no) (onLit x (fun v => Bool.rec .no (f .e 0 0) (vSl0 v)) .no)
def pkSrc (k : PK) (σ : St) (x : AV) (f : Nat → Nat → RA) : RA := onSl x (fun b o l _ _ _ => onPk (σ.h.at b) (fun κ _ n m => Bool.rec .no (f l (bitsAt (pkw k) n m o l)) (pkEq k κ && Nat.ble (Nat.add o l) n)) .no) (onLit x (fun v => Bool.rec .no (f 0 0) (vSl0 v)) .no)
def apFit (l by_ : Nat) : Bool := Nat.ble (Nat.mul l by_) 140737488355328
def apRow (t w by_ : Nat) (σ : St) (s : AV) (q : Row) (qo k : Nat) : RA := onSl s (fun b o l c w' kn => Bool.rec .no (Bool.rec
      (onCells (σ.h.at b) (fun t' n r => Bool.rec
        (Bool.rec .no (OR.rec (motive := fun _ => RA) .no (fun r => alR (σ.put b .dead) (.cells t (Nat.add n (Nat.mul k w)) r) (slW (Nat.add l k) w)) (Row.copy (Nat.mul k w) r n q qo)) (Nat.beq t' t && (Nat.beq o 0 && Nat.beq (Nat.mul l w) n)))
        (Bool.rec .no (OR.rec (motive := fun _ => RA) .no (fun r => OR.rec (motive := fun _ => RA) .no (fun r => alR σ (.cells t (Nat.mul (Nat.add l k) w) r) (slW (Nat.add l k) w)) (Row.copy (Nat.mul k w) r (Nat.mul l w) q qo)) (r.cut o (Nat.mul l w))) (Nat.ble (Nat.add o (Nat.mul l w)) n)) kn) .no)
      (stRow σ b (Nat.add o (Nat.mul l w)) (Nat.mul k w) q qo (.sl b o (Nat.add l k) c w kn)) (Nat.ble (Nat.add l k) c)) (Nat.beq w w' && apFit (Nat.add l k) by_))
  (onLit s (fun v => Bool.rec .no (Bool.rec (OR.rec (motive := fun _ => RA) .no (fun r => alR σ (.cells t (Nat.mul k w) r) (slW k w)) (q.cut qo (Nat.mul k w))) (.ok s σ) (Nat.beq k 0)) (vSl00 v && apFit k by_)) .no)
def apR (t w by_ : Nat) (s x : G) : R := fun T σ => rowSrc w σ (x T) (apRow t w by_ σ (s T))
def apRz (t w by_ : Nat) (z : Row) (s x : G) : R := fun T σ => onNum (x T) (fun n => OR.rec (motive := fun _ => RA) .no (fun q => apRow t w by_ σ (s T) q 0 n) (rowRep n w z)) .no
def apNum (κ : PK) (t by_ : Nat) (σ : St) (s : AV) (k y : Nat) : RA := onSl s (fun b o l c w' kn => Bool.rec .no
    (onPk (σ.h.at b) (fun κ' t' n m => Bool.rec .no (Bool.rec (Bool.rec
        (Bool.rec .no (alR (σ.put b .dead) (.pk κ t (Nat.add n k) (Nat.add (Nat.shiftLeft m (Nat.mul (pkw κ) k)) y)) (slU (Nat.add l k))) (Nat.beq t' t && (Nat.beq o 0 && Nat.beq l n)))
        (Bool.rec .no (alR σ (.pk κ t (Nat.add l k) (Nat.add (Nat.shiftLeft (bitsAt (pkw κ) n m o l) (Nat.mul (pkw κ) k)) y)) (slU (Nat.add l k))) (Nat.ble (Nat.add o l) n)) kn)
      (Bool.rec .no (.ok (.sl b o (Nat.add l k) c 1 kn) (σ.put b (.pk κ t' n (bitsSet (pkw κ) n m (Nat.add o l) k y)))) (Nat.ble (Nat.add o (Nat.add l k)) n)) (Nat.ble (Nat.add l k) c)) (pkEq κ κ')) .no) (Nat.beq w' 1 && apFit (Nat.add l k) by_))
  (onLit s (fun v => Bool.rec .no (Bool.rec (alR σ (.pk κ t k y) (slU k)) (.ok s σ) (Nat.beq k 0)) (vSl00 v && apFit k by_)) .no)
def txtSrc {α : Type} (x : AV) (f : Nat → Nat → α) (z : α) : α := onS x f z
def apS (t by_ : Nat) (s x : G) : R := fun T σ => txtSrc (x T) (apNum .u8 t by_ σ (s T)) .no
def apK (κ : PK) (t by_ : Nat) (s x : G) : R := fun T σ => pkSrc κ σ (x T) (apNum κ t by_ σ (s T))
def apKz (κ : PK) (t by_ : Nat) (s x : G) : R := fun T σ => onNum (x T) (fun n => apNum κ t by_ σ (s T) n 0) .no
def cpR (w : Nat) (d s : G) : R := fun T σ => rowSrc w σ (s T) fun q qo k => onSl (d T) (fun b o l _ _ _ => stRow σ b o (Nat.mul (Nat.min k l) w) q qo (.i64 (Nat.min k l))) (onLit (d T) (fun v => Bool.rec .no (.ok (.i64 0) σ) (vSl0 v)) .no)
def cpK (κ : PK) (d s : G) : R := fun T σ => pkSrc κ σ (s T) fun k y => onSl (d T) (fun b o l _ _ _ => onPk (σ.h.at b) (fun κ' t n m => Bool.rec .no
    ((fun j => .ok (.i64 j) (σ.put b (.pk κ t n (bitsSet (pkw κ) n m o j (Nat.shiftRight y (Nat.mul (pkw κ) (Nat.sub k j))))))) (Nat.min k l)) (pkEq κ κ' && Nat.ble (Nat.add o (Nat.min k l)) n)) .no) (onLit (d T) (fun v => Bool.rec .no (.ok (.i64 0) σ) (vSl0 v)) .no)
def clrR (w : Nat) (z : Row) (s : G) : R := fun T σ => onSl (s T) (fun b o l _ _ _ => OR.rec (motive := fun _ => RA) .no (fun q => stRow σ b o (Nat.mul l w) q 0 unitA) (rowRep l w z)) (onLit (s T) (fun v => Bool.rec .no (.ok unitA σ) (vSl0 v)) .no)
abbrev Fu := Tm → St → RA
def AVs.app (l m : AVs) : AVs := AVs.rec (motive_1 := fun _ => Unit) (motive_2 := fun _ => AVs → AVs) (motive_3 := fun _ => Unit) (fun _ => ()) (fun _ => ()) (fun _ => ()) (fun _ => ()) (fun _ => ()) (fun _ => ()) (fun _ _ => ()) (fun _ => ()) (fun _ _ => ()) (fun _ _ _ _ _ _ => ()) (fun _ _ _ => ()) (fun _ => ()) (fun _ _ _ => ()) (fun _ _ _ => ()) (fun _ _ => ()) (fun m => m) (fun v _ _ ih m => .cons v (ih m)) () (fun _ _ _ _ _ _ _ _ _ _ _ _ _ _ _ _  => ()) (fun _ _ _ _ _ _ _ _ _ _ _ _ _ _ _ _ _  => ()) l m
def AVs.len (l : AVs) : Nat := AVs.rec (motive_1 := fun _ => Unit) (motive_2 := fun _ => Nat) (motive_3 := fun _ => Unit) (fun _ => ()) (fun _ => ()) (fun _ => ()) (fun _ => ()) (fun _ => ()) (fun _ => ()) (fun _ _ => ()) (fun _ => ()) (fun _ _ => ()) (fun _ _ _ _ _ _ => ()) (fun _ _ _ => ()) (fun _ => ()) (fun _ _ _ => ()) (fun _ _ _ => ()) (fun _ _ => ()) 0 (fun _ _ _ ih => Nat.succ ih) () (fun _ _ _ _ _ _ _ _ _ _ _ _ _ _ _ _  => ()) (fun _ _ _ _ _ _ _ _ _ _ _ _ _ _ _ _ _  => ()) l
def nth (l : AVs) (i : Nat) : AV := OA.rec (motive := fun _ => AV) undefA (fun v => v) (l.nth i)
def z16 : T1 := .mk undefA undefA undefA undefA undefA undefA undefA undefA undefA undefA undefA undefA undefA undefA undefA undefA
def z256 : Tm := .mk z16 z16 z16 z16 z16 z16 z16 z16 z16 z16 z16 z16 z16 z16 z16 z16
def enter (l : AVs) : Tm := .mk (.mk (nth l 0) (nth l 1) (nth l 2) (nth l 3) (nth l 4) (nth l 5) (nth l 6) (nth l 7) undefA undefA undefA undefA undefA undefA undefA undefA) z16 z16 z16 z16 z16 z16 z16 z16 z16 z16 z16 z16 z16 z16 z16
def e0 : Tm := .mk (.mk  undefA undefA undefA undefA undefA undefA undefA undefA undefA undefA undefA undefA undefA undefA undefA undefA) z16 z16 z16 z16 z16 z16 z16 z16 z16 z16 z16 z16 z16 z16 z16
def e1 (x0 : AV) : Tm := .mk (.mk x0 undefA undefA undefA undefA undefA undefA undefA undefA undefA undefA undefA undefA undefA undefA undefA) z16 z16 z16 z16 z16 z16 z16 z16 z16 z16 z16 z16 z16 z16 z16
def e2 (x0 x1 : AV) : Tm := .mk (.mk x0 x1 undefA undefA undefA undefA undefA undefA undefA undefA undefA undefA undefA undefA undefA undefA) z16 z16 z16 z16 z16 z16 z16 z16 z16 z16 z16 z16 z16 z16 z16
def e3 (x0 x1 x2 : AV) : Tm := .mk (.mk x0 x1 x2 undefA undefA undefA undefA undefA undefA undefA undefA undefA undefA undefA undefA undefA) z16 z16 z16 z16 z16 z16 z16 z16 z16 z16 z16 z16 z16 z16 z16
def e4 (x0 x1 x2 x3 : AV) : Tm := .mk (.mk x0 x1 x2 x3 undefA undefA undefA undefA undefA undefA undefA undefA undefA undefA undefA undefA) z16 z16 z16 z16 z16 z16 z16 z16 z16 z16 z16 z16 z16 z16 z16
def e5 (x0 x1 x2 x3 x4 : AV) : Tm := .mk (.mk x0 x1 x2 x3 x4 undefA undefA undefA undefA undefA undefA undefA undefA undefA undefA undefA) z16 z16 z16 z16 z16 z16 z16 z16 z16 z16 z16 z16 z16 z16 z16
def e6 (x0 x1 x2 x3 x4 x5 : AV) : Tm := .mk (.mk x0 x1 x2 x3 x4 x5 undefA undefA undefA undefA undefA undefA undefA undefA undefA undefA) z16 z16 z16 z16 z16 z16 z16 z16 z16 z16 z16 z16 z16 z16 z16
def e7 (x0 x1 x2 x3 x4 x5 x6 : AV) : Tm := .mk (.mk x0 x1 x2 x3 x4 x5 x6 undefA undefA undefA undefA undefA undefA undefA undefA undefA) z16 z16 z16 z16 z16 z16 z16 z16 z16 z16 z16 z16 z16 z16 z16
def e8 (x0 x1 x2 x3 x4 x5 x6 x7 : AV) : Tm := .mk (.mk x0 x1 x2 x3 x4 x5 x6 x7 undefA undefA undefA undefA undefA undefA undefA undefA) z16 z16 z16 z16 z16 z16 z16 z16 z16 z16 z16 z16 z16 z16 z16
def noF : Fu := fun _ _ => .no
def cl (f : Fu) (args : Tm → Tm) : R := fun T σ => f (args T) σ
def clV (tab : Nat → Fu) (x : G) (args : Tm → AVs) : R := fun T σ => onFn (x T) (fun f caps => (fun l => Bool.rec .no (tab f (enter l) σ) (Nat.ble (AVs.len l) 8)) ((args T).app caps)) .no
def dEq (a b : D16) : Bool := D16.rec (motive := fun _ => D16 → Bool) (fun b => D16.rec (motive := fun _ => Bool) true false false false false false false false false false false false false false false false b) (fun b => D16.rec (motive := fun _ => Bool) false true false false false false false false false false false false false false false false b) (fun b => D16.rec (motive := fun _ => Bool) false false true false false false false false false false false false false false false false b) (fun b => D16.rec (motive := fun _ => Bool) false false false true false false false false false false false false false false false false b) (fun b => D16.rec (motive := fun _ => Bool) false false false false true false false false false false false false false false false false b) (fun b => D16.rec (motive := fun _ => Bool) false false false false false true false false false false false false false false false false b) (fun b => D16.rec (motive := fun _ => Bool) false false false false false false true false false false false false false false false false b) (fun b => D16.rec (motive := fun _ => Bool) false false false false false false false true false false false false false false false false b) (fun b => D16.rec (motive := fun _ => Bool) false false false false false false false false true false false false false false false false b) (fun b => D16.rec (motive := fun _ => Bool) false false false false false false false false false true false false false false false false b) (fun b => D16.rec (motive := fun _ => Bool) false false false false false false false false false false true false false false false false b) (fun b => D16.rec (motive := fun _ => Bool) false false false false false false false false false false false true false false false false b) (fun b => D16.rec (motive := fun _ => Bool) false false false false false false false false false false false false true false false false b) (fun b => D16.rec (motive := fun _ => Bool) false false false false false false false false false false false false false true false false b) (fun b => D16.rec (motive := fun _ => Bool) false false false false false false false false false false false false false false true false b) (fun b => D16.rec (motive := fun _ => Bool) false false false false false false false false false false false false false false false true b) a b
def bidEq (x y : Bid) : Bool := Bid.rec (motive := fun _ => Bid → Bool) (fun z a b c d y => Bid.rec (motive := fun _ => Bool) (fun z' a' b' c' d' => Bool.rec false (Bool.rec false (Bool.rec false (Bool.rec false (dEq z z') (dEq a a')) (dEq b b')) (dEq c c')) (dEq d d')) y) x y
def litEq : Value → Value → Bool
  | .pointer none, .pointer none => true
  | .slice none a b, .slice none c d => Nat.beq a c && Nat.beq b d
  | .map none, .map none => true
  | .nilIface, .nilIface => true
  | .nilFunc, .nilFunc => true
  | _, _ => false
def cellEq (x y : AV) : Bool := onI64 x (fun a => onI64 y (fun b => Nat.beq a b) false) (onU64 x (fun a => onU64 y (fun b => Nat.beq a b) false) (onU8 x (fun a => onU8 y (fun b => Nat.beq a b) false) (onB x (fun a => onB y (fun b => eqBB a b) false) (onS x (fun l a => onS y (fun m b => eqSB l a m b) false) (onP x (fun b o => onP y (fun c q => Bool.rec false (bidEq b c) (Nat.beq o q)) false) (onSl x (fun b o l c w kn => onSl y (fun b' o' l' c' w' kn' => bidEq b b' && (Nat.beq o o' && (Nat.beq l l' && (Nat.beq c c' && (Nat.beq w w' && eqBB kn kn'))))) false) (onMp x (fun b => onMp y (fun c => bidEq b c) false) (onLit x (fun v => onLit y (fun u => litEq v u) false) false))))))))
def rowEq (n : Nat) (r q : Row) : Bool := Nat.rec (motive := fun _ => Bool) true (fun i ih => OA.rec (motive := fun _ => Bool) false (fun x => OA.rec (motive := fun _ => Bool) false (fun y => Bool.rec false ih (cellEq x y)) (q.get i)) (r.get i)) n
abbrev C := Tm → St → RC
def ev (e : E) (s : Tm → AV → Tm) (k : C) : C := fun T σ => OA.rec (motive := fun _ => RC) .no (fun v => k (s T v) σ) (e T σ)
def ex (e : R) (s : Tm → AV → Tm) (k : C) : C := fun T σ => RA.rec (motive := fun _ => RC) .no (fun v σ => k (s T v) σ) (e T σ)
def nw (e : N) (s : Tm → AV → Tm) (k : C) : C := fun T σ => NB.rec (motive := fun _ => RC) .no (fun b f => Bool.rec .no (k (s T (f σ.nx)) (σ.new b)) (notLast σ.nx)) (e T)
def ns (T : Tm) (_ : AV) : Tm := T
def isBoolV : Value → Bool
  | .bool _ => true
  | _ => false
def noB (x : AV) (r : RC) : RC := onLit x (fun v => Bool.rec r .no (isBoolV v)) r
def evg (g : G) (w : Bool) (e : E) (s : Tm → AV → Tm) (k : C) : C := fun T σ => onB (g T) (fun t => Bool.rec (k (s T undefA) σ) (OA.rec (motive := fun _ => RC) .no (fun v => k (s T v) σ) (e T σ)) (eqBB t w)) (noB (g T) (k (s T undefA) σ))
def nwg (g : G) (w : Bool) (e : N) (s : Tm → AV → Tm) (k : C) : C := fun T σ => onB (g T) (fun t => Bool.rec (k (s T undefA) σ) (NB.rec (motive := fun _ => RC) .no (fun b f => Bool.rec .no (k (s T (f σ.nx)) (σ.new b)) (notLast σ.nx)) (e T)) (eqBB t w)) (noB (g T) (k (s T undefA) σ))
def exg (g : G) (w : Bool) (e : R) (s : Tm → AV → Tm) (k : C) : C := fun T σ => onB (g T) (fun t => Bool.rec (k (s T undefA) σ) (RA.rec (motive := fun _ => RC) .no (fun v σ => k (s T v) σ) (e T σ)) (eqBB t w)) (noB (g T) (k (s T undefA) σ))
def okR (r : Row) (p : Nat) : Bool := Row.rec (motive_1 := fun _ => Unit) (motive_2 := fun _ => Unit) (motive_3 := fun _ => Nat → Bool) (fun _ => ()) (fun _ => ()) (fun _ => ()) (fun _ => ()) (fun _ => ()) (fun _ => ()) (fun _ _ => ()) (fun _ => ()) (fun _ _ => ()) (fun _ _ _ _ _ _ => ()) (fun _ _ _ => ()) (fun _ => ()) (fun _ _ _ => ()) (fun _ _ _ => ()) (fun _ _ => ()) () (fun _ _ _ _ => ()) (fun _ => true) (fun a0 a1 a2 a3 a4 a5 a6 a7 _ _ _ _ _ _ _ _ p => Nat.beq p 1) (fun q a0 a1 a2 a3 a4 a5 a6 a7 h0 h1 h2 h3 h4 h5 h6 h7 p => Bool.rec false (Bool.rec false (Bool.rec false (Bool.rec false (Bool.rec false (Bool.rec false (Bool.rec false (Bool.rec false (Bool.rec false (h7 (Nat.div p 8)) (h6 (Nat.div p 8))) (h5 (Nat.div p 8))) (h4 (Nat.div p 8))) (h3 (Nat.div p 8))) (h2 (Nat.div p 8))) (h1 (Nat.div p 8))) (h0 (Nat.div p 8))) (Nat.beq q p)) (Nat.ble 8 p)) r p
def okPow (p : Nat) : Bool := Bool.rec (Bool.rec (Bool.rec (Nat.beq p 512) true (Nat.beq p 64)) true (Nat.beq p 8)) true (Nat.beq p 1)
def rowOk (r : Row) : Bool := (fun p => Bool.rec false (okR r p) (okPow p)) (Nat.div r.cap 8)
def avEq (x y : AV) : Bool := onAgg x (fun n r => onAgg y (fun m q => Bool.rec false (Bool.rec false (Bool.rec false (rowEq n r q) (rowOk q)) (Nat.ble n q.cap)) (Nat.beq n m)) false) (cellEq x y)
def ck (e : E) (g : G) (k : C) : C := fun T σ => OA.rec (motive := fun _ => RC) .no (fun v => Bool.rec .no (k T σ) (avEq v (g T))) (e T σ)
def ckg (c : G) (w : Bool) (e : E) (g : G) (k : C) : C := fun T σ => onB (c T) (fun t => Bool.rec (k T σ) (OA.rec (motive := fun _ => RC) .no (fun v => Bool.rec .no (k T σ) (avEq v (g T))) (e T σ)) (eqBB t w)) (noB (c T) (k T σ))
def nd : C := fun T σ => .normal T σ
def rt : C := fun T σ => .ret T σ
def xt (id : Nat) : C := fun T σ => .exit id T σ
def sq (a b : C) : C := fun T σ => RC.rec (motive := fun _ => RC) .no (fun T σ => b T σ) .exit .ret (a T σ)
def ci (c : G) (a b : C) : C := fun T σ => onB (c T) (fun t => Bool.rec (b T σ) (a T σ) t) .no
def bk (id : Nat) (a : C) : C := fun T σ => RC.rec (motive := fun _ => RC) .no .normal (fun i T σ => Bool.rec (.exit i T σ) (.normal T σ) (Nat.beq i id)) .ret (a T σ)
def lp (n : Nat) (f : C) : C := Nat.rec (motive := fun _ => C) (fun _ _ => .no) (fun _ ih => sq f ih) n
def rets (l : Tm → St → OA) (r : RC) : RA := RC.rec (motive := fun _ => RA) .no (fun T σ => OA.rec (motive := fun _ => RA) .no (fun v => .ok v σ) (l T σ)) (fun _ _ _ => .no) (fun T σ => OA.rec (motive := fun _ => RA) .no (fun v => .ok v σ) (l T σ)) r
def insS (x : AV) (l : AVs) : AVs := AVs.rec (motive_1 := fun _ => Unit) (motive_2 := fun _ => AVs) (motive_3 := fun _ => Unit) (fun _ => ()) (fun _ => ()) (fun _ => ()) (fun _ => ()) (fun _ => ()) (fun _ => ()) (fun _ _ => ()) (fun _ => ()) (fun _ _ => ()) (fun _ _ _ _ _ _ => ()) (fun _ _ _ => ()) (fun _ => ()) (fun _ _ _ => ()) (fun _ _ _ => ()) (fun _ _ => ()) (.cons x .nil) (fun y r _ ih => onS x (fun a n => onS y (fun b m => Bool.rec (.cons x (.cons y r)) (.cons y ih) (lsS b m a n)) .nil) .nil) () (fun _ _ _ _ _ _ _ _ _ _ _ _ _ _ _ _  => ()) (fun _ _ _ _ _ _ _ _ _ _ _ _ _ _ _ _ _  => ()) l
def Ents.keys (e : Ents) : AVs := Ents.rec (motive := fun _ => AVs) .nil (fun k _ _ _ ih => insS k ih) e
def sortedMap (σ : St) (x : AV) : RA := mapOf σ x (fun _ es _ => (fun ks => Bool.rec (alR σ (.cells 9 (AVs.len ks) (Row.putL .e 0 ks)) (slW (AVs.len ks) 1)) (.ok (.lit (.slice none 0 0)) σ) (Nat.beq (AVs.len ks) 0)) es.keys) (onLit x (fun v => Bool.rec .no (.ok (.lit (.slice none 0 0)) σ) (vMp0 v)) .no)
def sortedP : Fu := fun a σ => onFn (g0 a) (fun f caps => Bool.rec .no (onP (nth caps 0) (fun b o => RAofN ((σ.h.at b).get o) (sortedMap σ)) .no) (Nat.beq caps.len 1 && (Nat.beq f 86 || Nat.beq f 331))) .no
def cloneP : Fu := fun a σ => onIface (g0 a) (fun t m => mapOf σ m (fun _ es c => alR σ (.map es c) (fun b => .iface t (.mp b))) .no) .no
def row1 (v : AV) : Row := .l v v v v v v v v
def row8 (p : Nat) (r : Row) : Row := .n p r r r r r r r r
def zdev : Row := row8 512 (row8 64 (row8 8 (row1 (.i64 0))))
def devNew : Fu := fun a σ => onI64 (g0 a) (fun n => (fun n => newP σ (.dev n zdev zdev 0)) (Nat.min (Nat.max n 1) 2048)) .no
def onDevP {α : Type} (σ : St) (a : Tm) (f : Bid → Nat → Row → Row → Nat → α) (z : α) : α := onP (g0 a) (fun b o => Bool.rec z (onDev (σ.h.at b) (f b) z) (Nat.beq o 0)) z
def devLen : Fu := fun a σ => onDevP σ a (fun _ n _ _ _ => .ok (.i64 n) σ) .no
def devDead : Fu := fun a σ => onDevP σ a (fun _ _ _ _ _ => .ok (.b false) σ) .no
def devCalls : Fu := fun a σ => onDevP σ a (fun _ _ _ _ c => .ok (.i64 c) σ) .no
def devRead : Fu := fun a σ => onDevP σ a (fun _ n now _ _ => onI64 (g1 a) (fun i => Bool.rec .no (RAofN (now.get i) fun v => onI64 v (fun m => alR σ (.pk .u8 5 64 m) (fun b => .tup (.cons (slU 64 b) (.cons (.i64 0) .nil)))) .no) (Nat.ble (Nat.succ i) n)) .no) .no
def devWrite : Fu := fun a σ => onDevP σ a (fun b n now lasts c => onI64 (g1 a) (fun i => Bool.rec .no (onSl (g2 a) (fun b2 o l _ _ _ => onPk (σ.h.at b2) (fun κ _ N m2 => Bool.rec .no (RAofN (now.get i) fun v => onI64 v (fun m => .ok (.i64 0) (σ.put b (.dev n (now.set 0 i (.i64 (bitsSet 8 64 m 0 l (bitsAt 8 N m2 o l)))) lasts (Nat.succ c)))) .no) ((pkEq .u8 κ && Nat.ble (Nat.add o l) N) && (Nat.ble l 64 && Nat.ble c 999999))) .no) .no) (Nat.ble (Nat.succ i) n)) .no) .no
def devFlush : Fu := fun a σ => onDevP σ a (fun b n now _ c => Bool.rec .no (.ok (.i64 0) (σ.put b (.dev n now now (Nat.succ c)))) (Nat.ble c 999999)) .no
def isNilSl (v : AV) : Bool := onLit v vSl00 false
def devCrash : Fu := fun a σ => Bool.rec .no (onDevP σ a (fun _ n _ lasts _ => newP σ (.dev n lasts lasts 0)) .no) (isNilSl (g1 a))
def bitOf (n m i : Nat) : Bool := Nat.beq (bitsAt 1 n m i 1) 1
inductive SP where
  | nil
  | cons (at_ len : Nat) (r : SP)
def spansF (n m a : Nat) (k : Nat) : Option Nat → SP :=
  Nat.rec (motive := fun _ => Option Nat → SP) (fun o => Option.rec .nil (fun s => .cons (Nat.add a s) (Nat.sub n s) .nil) o)
    (fun k ih o => Bool.rec (Option.rec (ih none) (fun s => .cons (Nat.add a s) (Nat.sub (Nat.sub n (Nat.succ k)) s) (ih none)) o) (Option.rec (ih (some (Nat.sub n (Nat.succ k)))) (fun _ => ih o) o) (bitOf n m (Nat.sub n (Nat.succ k)))) k
def SP.avs (l : SP) : AVs := SP.rec (motive := fun _ => AVs) .nil (fun a n _ ih => .cons (.i64 a) (.cons (.i64 n) ih)) l
def extSpans : Fu := fun a σ => onP (g0 a) (fun b o => RAofN ((σ.h.at b).get o) fun x => onI64 x (fun at_ => RAofN ((σ.h.at b).get (Nat.succ o)) fun y => onSl y (fun b2 o2 n _ _ _ => onPk (σ.h.at b2) (fun κ _ N m2 => Bool.rec .no
  ((fun l : AVs => (fun k => Bool.rec (alR σ (.cells 163 k (Row.putL .e 0 l)) (slW (Nat.div k 2) 2)) (.ok (.lit (.slice none 0 0)) σ) (Nat.beq k 0)) (AVs.len l)) (spansF n (bitsAt 1 N m2 o2 n) at_ n none).avs) ((pkEq .bool κ && Nat.ble (Nat.add o2 n) N) && (Nat.ble n 2048 && Nat.ble at_ 1000000))) .no) .no) .no) .no
def crcStep (x : Nat) : Nat := Bool.rec (Nat.shiftRight x 1) (Nat.xor (Nat.shiftRight x 1) 3988292384) (Nat.beq (Nat.mod x 2) 1)
def crcB (x c : Nat) : Nat := crcStep (crcStep (crcStep (crcStep (crcStep (crcStep (crcStep (crcStep (Nat.xor x c))))))))
def crcL (n m : Nat) (k : Nat) (x : Nat) : Nat := Nat.rec (motive := fun _ => Nat → Nat) (fun x => x) (fun k ih x => ih (crcB x (bitsAt 8 n m (Nat.sub n (Nat.succ k)) 1))) k x
def crcMore : Fu := fun a σ => onU32 (g0 a) (fun s => pkSrc .u8 σ (g1 a) fun n m => .ok (.u32 (Nat.xor (crcL n m n (Nat.xor s 4294967295)) 4294967295)) σ) .no
def hashL (n m : Nat) (k : Nat) : Nat → (Nat → RA) → RA := Nat.rec (motive := fun _ => Nat → (Nat → RA) → RA) (fun h f => f h) (fun k ih h f => (fun c => Bool.rec .no (ih (Nat.mod (Nat.mul (Nat.xor h c) 1099511628211) 18446744073709551616) f) (Nat.ble c 127)) (bitsAt 8 n m (Nat.sub n (Nat.succ k)) 1)) k
def hashP : Fu := fun a σ => onS (g0 a) (fun n m => hashL n m n 14695981039346656037 fun h => (fun h => (fun h => .ok (.u64 (Nat.xor h (Nat.shiftRight h 29))) σ) (Nat.mod (Nat.mul h 11400714819323198485) 18446744073709551616)) (Nat.xor h (Nat.shiftRight h 32))) .no
def roomL (n m : Nat) (k : Nat) : Nat → Bool := Nat.rec (motive := fun _ => Nat → Bool) (fun _ => true) (fun k ih L => (fun h => (fun b => Bool.rec ((fun o => Bool.rec false (ih (Nat.add L (Nat.pow 16 o))) (Nat.ble (Nat.mod (Nat.shiftRight L (Nat.mul 4 o)) 16) 3)) (Nat.xor b (Nat.succ (Nat.mod (Nat.mod (Nat.div h 256) 32768) 7)))) (ih (Nat.add L (Nat.pow 16 b))) (Nat.ble (Nat.mod (Nat.shiftRight L (Nat.mul 4 b)) 16) 3)) (Nat.mod h 8)) (bitsAt 64 n m (Nat.sub n (Nat.succ k)) 1)) k
def roomP : Fu := fun a σ => pkSrc .u64 σ (g0 a) fun n m => Bool.rec .no (.ok (.b true) σ) (roomL n m n 0)
def fun' (l : Tm → St → OA) (c : C) : Fu := fun T σ => rets l (c T σ)
end
end Go.Proofs.YtaogloegiffioaaGreatDoor
namespace Go.Proofs.YtaogloegiffioaaGreatDoor
noncomputable section
def upS (l : AVs) : Nat → Nat → Bool := AVs.rec (motive_1 := fun _ => Unit) (motive_2 := fun _ => Nat → Nat → Bool) (motive_3 := fun _ => Unit) (fun _ => ()) (fun _ => ()) (fun _ => ()) (fun _ => ()) (fun _ => ()) (fun _ => ()) (fun _ _ => ()) (fun _ => ()) (fun _ _ => ()) (fun _ _ _ _ _ _ => ()) (fun _ _ _ => ()) (fun _ => ()) (fun _ _ _ => ()) (fun _ _ _ => ()) (fun _ _ => ()) (fun _ _ => true) (fun v _ _ ih a n => onS v (fun b m => Bool.rec false (ih b m) (lsS a n b m)) false) () (fun _ _ _ _ _ _ _ _ _ _ _ _ _ _ _ _  => ()) (fun _ _ _ _ _ _ _ _ _ _ _ _ _ _ _ _ _  => ()) l
def upS0 (l : AVs) : Bool := AVs.rec (motive_1 := fun _ => Unit) (motive_2 := fun _ => Bool) (motive_3 := fun _ => Unit) (fun _ => ()) (fun _ => ()) (fun _ => ()) (fun _ => ()) (fun _ => ()) (fun _ => ()) (fun _ _ => ()) (fun _ => ()) (fun _ _ => ()) (fun _ _ _ _ _ _ => ()) (fun _ _ _ => ()) (fun _ => ()) (fun _ _ _ => ()) (fun _ _ _ => ()) (fun _ _ => ()) true (fun v r _ _ => onS v (fun b m => upS r b m) false) () (fun _ _ _ _ _ _ _ _ _ _ _ _ _ _ _ _  => ()) (fun _ _ _ _ _ _ _ _ _ _ _ _ _ _ _ _ _  => ()) l
def Ents.ups (e : Ents) (c : Nat) : Nat → Bool := Ents.rec (motive := fun _ => Nat → Bool) (fun _ => true) (fun k _ n _ ih lo => onS k (fun _ _ => Bool.rec false (ih (Nat.succ n)) (Nat.ble lo n && Nat.ble (Nat.succ n) c)) false) e
def sortedMapQ (σ : St) (x : AV) : RA := mapOf σ x (fun _ es c => (fun ks => Bool.rec .no (Bool.rec (alR σ (.cells 9 (AVs.len ks) (Row.putL .e 0 ks)) (slW (AVs.len ks) 1)) (.ok (.lit (.slice none 0 0)) σ) (Nat.beq (AVs.len ks) 0)) ((upS0 ks && es.ups c 0) && Nat.ble (AVs.len ks) 4096)) es.keys) (onLit x (fun v => Bool.rec .no (.ok (.lit (.slice none 0 0)) σ) (vMp0 v)) .no)
def sortedQ : Fu := fun a σ => onFn (g0 a) (fun f caps => Bool.rec .no (onP (nth caps 0) (fun b o => Bool.rec .no (RAofN ((σ.h.at b).get o) (sortedMapQ σ)) (Nat.beq o 0)) .no) (Nat.beq caps.len 1 && (Nat.beq f 86 || Nat.beq f 331))) .no
end
end Go.Proofs.YtaogloegiffioaaGreatDoor
