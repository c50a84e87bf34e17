/- Contracts: what two texts of bits have both, or one of them, or one has not; one text within another. -/
import Derived.Test.YtinnkkhpgcmbhaaDoorBits
import Derived.Test.YtinnkkhpgcmbhaaDoorRow
namespace Go.Proofs.YtinnkkhpgcmbhaaDoor.Bi
open Go.RowKit Go.Proofs.YtinnkkhpgcmbhaaDoor.Ro


end Go.Proofs.YtinnkkhpgcmbhaaDoor.Bi
