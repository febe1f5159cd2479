/- The instruction table as plain data, and how it lies in memory. -/
import Derived.Test.YtamhmfdbnlkmkaaMg6
namespace Go.Proofs.Ytamhmfdbnlkmkaa
open Go

structure FieldD where
  kind : Int
  bits : Int
  shift : Int
  signed : Bool
  ext : Bool
  deriving DecidableEq

structure RowD where
  op : Int
  name : ByteArray
  cls : Int
  slots : Int
  fields : List FieldD

def FieldD.cells (f : FieldD) : List TC := [.sc (.int .u8 f.kind), .sc (.int .i64 f.bits), .sc (.int .i64 f.shift), .sc (.bool f.signed), .sc (.bool f.ext)]

def fieldsC : List FieldD → TC
  | [] => .sc (.slice none 0 0)
  | l => .sl 5 (l.map FieldD.cells)

def RowD.cells (r : RowD) : List TC := [.sc (.int .u8 r.op), .sc (.string r.name), .sc (.int .u8 r.cls), .sc (.int .u8 r.slots), fieldsC r.fields]

def tableD : List RowD := [
  ⟨1, ⟨#[110, 111, 112]⟩, 1, 15, []⟩,
  ⟨2, ⟨#[97, 100, 100]⟩, 1, 15, [⟨1, 3, 0, false, false⟩, ⟨2, 2, 0, false, false⟩, ⟨3, 5, 0, false, false⟩, ⟨5, 5, 0, false, false⟩, ⟨6, 5, 0, false, false⟩]⟩,
  ⟨3, ⟨#[115, 117, 98]⟩, 1, 15, [⟨1, 3, 0, false, false⟩, ⟨2, 2, 0, false, false⟩, ⟨3, 5, 0, false, false⟩, ⟨5, 5, 0, false, false⟩, ⟨6, 5, 0, false, false⟩]⟩,
  ⟨4, ⟨#[97, 110, 100]⟩, 1, 15, [⟨1, 3, 0, false, false⟩, ⟨2, 2, 0, false, false⟩, ⟨3, 5, 0, false, false⟩, ⟨5, 5, 0, false, false⟩, ⟨6, 5, 0, false, false⟩]⟩,
  ⟨5, ⟨#[111, 114]⟩, 1, 15, [⟨1, 3, 0, false, false⟩, ⟨2, 2, 0, false, false⟩, ⟨3, 5, 0, false, false⟩, ⟨5, 5, 0, false, false⟩, ⟨6, 5, 0, false, false⟩]⟩,
  ⟨6, ⟨#[120, 111, 114]⟩, 1, 15, [⟨1, 3, 0, false, false⟩, ⟨2, 2, 0, false, false⟩, ⟨3, 5, 0, false, false⟩, ⟨5, 5, 0, false, false⟩, ⟨6, 5, 0, false, false⟩]⟩,
  ⟨7, ⟨#[97, 100, 100, 105]⟩, 1, 15, [⟨3, 5, 0, false, false⟩, ⟨5, 5, 0, false, false⟩, ⟨9, 14, 0, true, true⟩]⟩,
  ⟨8, ⟨#[109, 111, 118, 105]⟩, 1, 15, [⟨1, 3, 0, false, false⟩, ⟨2, 2, 0, false, false⟩, ⟨3, 5, 0, false, false⟩, ⟨9, 14, 0, true, true⟩]⟩,
  ⟨9, ⟨#[109, 111, 118]⟩, 1, 15, [⟨1, 3, 0, false, false⟩, ⟨2, 2, 0, false, false⟩, ⟨3, 5, 0, false, false⟩, ⟨5, 5, 0, false, false⟩]⟩,
  ⟨10, ⟨#[99, 109, 112, 101, 113]⟩, 1, 15, [⟨4, 2, 0, false, false⟩, ⟨5, 5, 0, false, false⟩, ⟨6, 5, 0, false, false⟩]⟩,
  ⟨11, ⟨#[99, 109, 112, 103, 116]⟩, 1, 15, [⟨4, 2, 0, false, false⟩, ⟨5, 5, 0, false, false⟩, ⟨6, 5, 0, false, false⟩]⟩,
  ⟨12, ⟨#[99, 109, 112, 103, 116, 117]⟩, 1, 15, [⟨4, 2, 0, false, false⟩, ⟨5, 5, 0, false, false⟩, ⟨6, 5, 0, false, false⟩]⟩,
  ⟨13, ⟨#[99, 109, 112, 101, 113, 105]⟩, 1, 15, [⟨4, 2, 0, false, false⟩, ⟨5, 5, 0, false, false⟩, ⟨9, 14, 0, true, true⟩]⟩,
  ⟨14, ⟨#[109, 117, 120]⟩, 1, 15, [⟨3, 5, 0, false, false⟩, ⟨2, 2, 0, false, false⟩, ⟨5, 5, 0, false, false⟩, ⟨6, 5, 0, false, false⟩]⟩,
  ⟨15, ⟨#[97, 115, 108]⟩, 2, 12, [⟨3, 5, 0, false, false⟩, ⟨5, 5, 0, false, false⟩, ⟨9, 5, 0, false, false⟩]⟩,
  ⟨16, ⟨#[108, 115, 114]⟩, 2, 12, [⟨3, 5, 0, false, false⟩, ⟨5, 5, 0, false, false⟩, ⟨9, 5, 0, false, false⟩]⟩,
  ⟨17, ⟨#[97, 115, 114]⟩, 2, 12, [⟨3, 5, 0, false, false⟩, ⟨5, 5, 0, false, false⟩, ⟨9, 5, 0, false, false⟩]⟩,
  ⟨18, ⟨#[109, 112, 121]⟩, 2, 12, [⟨3, 5, 0, false, false⟩, ⟨5, 5, 0, false, false⟩, ⟨6, 5, 0, false, false⟩]⟩,
  ⟨19, ⟨#[99, 109, 112, 121]⟩, 2, 12, [⟨3, 5, 0, false, false⟩, ⟨5, 5, 0, false, false⟩, ⟨6, 5, 0, false, false⟩]⟩,
  ⟨20, ⟨#[99, 109, 112, 121, 99]⟩, 2, 12, [⟨3, 5, 0, false, false⟩, ⟨5, 5, 0, false, false⟩, ⟨6, 5, 0, false, false⟩]⟩,
  ⟨21, ⟨#[108, 100, 119]⟩, 3, 3, [⟨3, 5, 0, false, false⟩, ⟨5, 5, 0, false, false⟩, ⟨9, 12, 2, true, true⟩]⟩,
  ⟨22, ⟨#[108, 100, 104]⟩, 3, 3, [⟨3, 5, 0, false, false⟩, ⟨5, 5, 0, false, false⟩, ⟨9, 12, 1, true, true⟩]⟩,
  ⟨23, ⟨#[108, 100, 98]⟩, 3, 3, [⟨3, 5, 0, false, false⟩, ⟨5, 5, 0, false, false⟩, ⟨9, 12, 0, true, true⟩]⟩,
  ⟨24, ⟨#[115, 116, 119]⟩, 4, 1, [⟨5, 5, 0, false, false⟩, ⟨8, 1, 0, false, false⟩, ⟨6, 5, 0, false, false⟩, ⟨9, 12, 2, true, true⟩]⟩,
  ⟨25, ⟨#[115, 116, 104]⟩, 4, 1, [⟨5, 5, 0, false, false⟩, ⟨8, 1, 0, false, false⟩, ⟨6, 5, 0, false, false⟩, ⟨9, 12, 1, true, true⟩]⟩,
  ⟨26, ⟨#[115, 116, 98]⟩, 4, 1, [⟨5, 5, 0, false, false⟩, ⟨8, 1, 0, false, false⟩, ⟨6, 5, 0, false, false⟩, ⟨9, 12, 0, true, true⟩]⟩,
  ⟨27, ⟨#[106, 117, 109, 112]⟩, 5, 12, [⟨1, 3, 0, false, false⟩, ⟨2, 2, 0, false, false⟩, ⟨10, 19, 2, true, true⟩]⟩,
  ⟨28, ⟨#[106, 117, 109, 112, 114]⟩, 5, 12, [⟨1, 3, 0, false, false⟩, ⟨2, 2, 0, false, false⟩, ⟨5, 5, 0, false, false⟩]⟩,
  ⟨29, ⟨#[99, 97, 108, 108]⟩, 5, 12, [⟨10, 24, 2, true, true⟩]⟩,
  ⟨30, ⟨#[108, 111, 111, 112, 105]⟩, 6, 8, [⟨7, 1, 0, false, false⟩, ⟨10, 12, 2, true, true⟩, ⟨11, 11, 0, false, false⟩]⟩,
  ⟨31, ⟨#[108, 111, 111, 112, 114]⟩, 6, 8, [⟨7, 1, 0, false, false⟩, ⟨10, 12, 2, true, true⟩, ⟨5, 5, 0, false, false⟩]⟩]

def tableA : AV := .tc (.sl 5 (tableD.map RowD.cells))
end Go.Proofs.Ytamhmfdbnlkmkaa
