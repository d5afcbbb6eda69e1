/-
  The types of the program, as the abstract run asks for them.
-/
import Derived.Test.YtamjbkaclhgffaaGreatSh15
set_option linter.all false
set_option maxRecDepth 100000
set_option maxHeartbeats 4000000
namespace Go.Proofs.YtamjbkaclhgffaaGreat
variable{r:Bk}{fn:Func}{G Q:Prop}{t:Tc}{α:Type}{n:Unit->Int}{c:aC}
def Ce:lE := [
 (3,⟨1,.int .i64,[.lit .i64 0],[]⟩),(4,⟨1,.bool,[.aV false],[]⟩),(5,⟨1,.int .u8,[.lit .u8 0],[]⟩),(1,⟨1,.other,[.un],[]⟩),(2,⟨1,.int .i64,[.lit .i64 0],[]⟩),(7,⟨4,.struct [(0,1,false),(1,1,false),(2,1,false),(3,1,false)],[.lit .i64 0,.lit .i64 0,.aV false,.lit .u8 0],[]⟩),(9,⟨1,.str,[.str fun _=>jF],[]⟩),(12,⟨1,.int .u64,[.lit .u64 0],[]⟩),(13,⟨2,.struct [(0,1,false),(1,1,false)],[.str fun _=>jF,.lit .u64 0],[]⟩),(15,⟨1,.other,[.un],[]⟩),(16,⟨1,.other,[.un],[]⟩),(17,⟨1,.other,[.un],[]⟩),(18,⟨1,.struct [(0,1,false)],[.un],[]⟩),(21,⟨1,.int .i32,[.lit .i32 0],[]⟩),(22,⟨1,.slice 127 12 112,[.nil],[]⟩),(23,⟨1,.slice 167 2 32,[.nil],[]⟩),(24,⟨4,.struct [(0,1,false),(1,1,false),(2,1,false),(3,1,false)],[.lit .i64 0,.lit .i64 0,.lit .i64 0,.lit .i64 0],[]⟩),(25,⟨4,.struct [(0,1,false),(1,1,false),(2,1,false),(3,1,false)],[.lit .i64 0,.lit .i64 0,.lit .i64 0,.lit .i64 0],[.int .i64,.int .i64,.int .i64,.int .i64]⟩),(26,⟨1,.slice 234 5 40,[.nil],[]⟩),(27,⟨1,.slice 45 5 40,[.nil],[]⟩),(28,⟨1,.slice 121 6 64,[.nil],[]⟩),(29,⟨4,.struct [(0,1,false),(1,1,false),(2,1,false),(3,1,false)],[.lit .i64 0,.lit .i64 0,.lit .i64 0,.lit .i64 0],[]⟩),(30,⟨4,.struct [(0,1,false),(1,1,false),(2,1,false),(3,1,false)],[.lit .i64 0,.lit .i64 0,.lit .i64 0,.lit .i64 0],[.int .i64,.int .i64,.int .i64,.int .i64]⟩),(31,⟨13,.struct [(0,1,false),(1,1,false),(2,4,true),(6,1,false),(7,1,false),(8,1,false),(9,4,true)],[.nil,.nil,.lit .i64 0,.lit .i64 0,.lit .i64 0,.lit .i64 0,.nil,.nil,.nil,.lit .i64 0,.lit .i64 0,.lit .i64 0,.lit .i64 0],[]⟩),(32,⟨13,.struct [(0,1,false),(1,1,false),(2,4,true),(6,1,false),(7,1,false),(8,1,false),(9,4,true)],[.nil,.nil,.lit .i64 0,.lit .i64 0,.lit .i64 0,.lit .i64 0,.nil,.nil,.nil,.lit .i64 0,.lit .i64 0,.lit .i64 0,.lit .i64 0],[]⟩),(33,⟨1,.slice 141 9 64,[.nil],[]⟩),(34,⟨1,.slice 125 4 32,[.nil],[]⟩),(35,⟨1,.slice 3 1 8,[.nil],[]⟩),(36,⟨1,.other,[.un],[]⟩),(37,⟨1,.other,[.un],[]⟩),(38,⟨1,.other,[.un],[]⟩),(39,⟨1,.other,[.un],[]⟩),(40,⟨2,.struct [(0,1,false),(1,1,false)],[.lit .i64 0,.lit .i64 0],[]⟩),(41,⟨2,.struct [(0,1,false),(1,1,false)],[.lit .i64 0,.lit .i64 0],[.int .i64,.int .i64]⟩),(42,⟨1,.slice 41 2 16,[.nil],[]⟩),(43,⟨1,.other,[.un],[]⟩),(44,⟨5,.struct [(0,1,false),(1,1,false),(2,1,false),(3,1,false),(4,1,false)],[.lit .i64 0,.lit .i64 0,.lit .i64 0,.lit .i64 0,.lit .i64 0],[]⟩),(45,⟨5,.struct [(0,1,false),(1,1,false),(2,1,false),(3,1,false),(4,1,false)],[.lit .i64 0,.lit .i64 0,.lit .i64 0,.lit .i64 0,.lit .i64 0],[.int .i64,.int .i64,.int .i64,.int .i64,.int .i64]⟩),(46,⟨1,.other,[.un],[]⟩),(47,⟨5,.array 5 46 1 false,[.un,.un,.un,.un,.un],[]⟩),(48,⟨1,.other,[.un],[]⟩),(49,⟨1,.int .u32,[.lit .u32 0],[]⟩),(50,⟨8,.array 8 49 1 false,[.lit .u32 0,.lit .u32 0,.lit .u32 0,.lit .u32 0,.lit .u32 0,.lit .u32 0,.lit .u32 0,.lit .u32 0],[.int .u32,.int .u32,.int .u32,.int .u32,.int .u32,.int .u32,.int .u32,.int .u32]⟩),(51,⟨17,.struct [(0,1,false),(1,8,true),(9,8,true)],[.aV false,.lit .u32 0,.lit .u32 0,.lit .u32 0,.lit .u32 0,.lit .u32 0,.lit .u32 0,.lit .u32 0,.lit .u32 0,.lit .u32 0,.lit .u32 0,.lit .u32 0,.lit .u32 0,.lit .u32 0,.lit .u32 0,.lit .u32 0,.lit .u32 0],[]⟩),(52,⟨17,.struct [(0,1,false),(1,8,true),(9,8,true)],[.aV false,.lit .u32 0,.lit .u32 0,.lit .u32 0,.lit .u32 0,.lit .u32 0,.lit .u32 0,.lit .u32 0,.lit .u32 0,.lit .u32 0,.lit .u32 0,.lit .u32 0,.lit .u32 0,.lit .u32 0,.lit .u32 0,.lit .u32 0,.lit .u32 0],[.bool,.int .u32,.int .u32,.int .u32,.int .u32,.int .u32,.int .u32,.int .u32,.int .u32,.int .u32,.int .u32,.int .u32,.int .u32,.int .u32,.int .u32,.int .u32,.int .u32]⟩),(53,⟨1,.other,[.un],[]⟩),(54,⟨34,.struct [(0,17,true),(17,17,true)],[.aV false,.lit .u32 0,.lit .u32 0,.lit .u32 0,.lit .u32 0,.lit .u32 0,.lit .u32 0,.lit .u32 0,.lit .u32 0,.lit .u32 0,.lit .u32 0,.lit .u32 0,.lit .u32 0,.lit .u32 0,.lit .u32 0,.lit .u32 0,.lit .u32 0,.aV false,.lit .u32 0,.lit .u32 0,.lit .u32 0,.lit .u32 0,.lit .u32 0,.lit .u32 0,.lit .u32 0,.lit .u32 0,.lit .u32 0,.lit .u32 0,.lit .u32 0,.lit .u32 0,.lit .u32 0,.lit .u32 0,.lit .u32 0,.lit .u32 0],[]⟩),(55,⟨34,.struct [(0,17,true),(17,17,true)],[.aV false,.lit .u32 0,.lit .u32 0,.lit .u32 0,.lit .u32 0,.lit .u32 0,.lit .u32 0,.lit .u32 0,.lit .u32 0,.lit .u32 0,.lit .u32 0,.lit .u32 0,.lit .u32 0,.lit .u32 0,.lit .u32 0,.lit .u32 0,.lit .u32 0,.aV false,.lit .u32 0,.lit .u32 0,.lit .u32 0,.lit .u32 0,.lit .u32 0,.lit .u32 0,.lit .u32 0,.lit .u32 0,.lit .u32 0,.lit .u32 0,.lit .u32 0,.lit .u32 0,.lit .u32 0,.lit .u32 0,.lit .u32 0,.lit .u32 0],[.bool,.int .u32,.int .u32,.int .u32,.int .u32,.int .u32,.int .u32,.int .u32,.int .u32,.int .u32,.int .u32,.int .u32,.int .u32,.int .u32,.int .u32,.int .u32,.int .u32,.bool,.int .u32,.int .u32,.int .u32,.int .u32,.int .u32,.int .u32,.int .u32,.int .u32,.int .u32,.int .u32,.int .u32,.int .u32,.int .u32,.int .u32,.int .u32,.int .u32]⟩),(56,⟨1,.other,[.un],[]⟩),(57,⟨1,.slice 55 34 136,[.nil],[]⟩),(58,⟨1,.other,[.un],[]⟩),(59,⟨1,.slice 204 4 4,[.nil],[]⟩),(60,⟨1,.slice 208 4 4,[.nil],[]⟩),(61,⟨1,.slice 134 6 10,[.nil],[]⟩),(62,⟨1,.slice 5 1 1,[.nil],[]⟩),(63,⟨1,.slice 136 5 10,[.nil],[]⟩),(65,⟨1,.other,[.un],[]⟩),(67,⟨1,.other,[.un],[]⟩),(69,⟨1,.other,[.un],[]⟩),(70,⟨1,.int .i64,[.lit .i64 0],[]⟩),(72,⟨1,.other,[.un],[]⟩),(73,⟨4,.struct [(0,1,false),(1,1,false),(2,1,false),(3,1,false)],[.lit .i64 0,.lit .i64 0,.lit .i64 0,.lit .i64 0],[.int .i64,.int .i64,.int .i64,.int .i64]⟩),(75,⟨1,.other,[.un],[]⟩),(76,⟨1,.other,[.un],[]⟩),(77,⟨1,.other,[.un],[]⟩),(79,⟨1,.other,[.un],[]⟩),(80,⟨1,.other,[.un],[]⟩),(81,⟨1,.other,[.un],[]⟩),(82,⟨1,.other,[.un],[]⟩),(83,⟨1,.other,[.un],[]⟩),(84,⟨1,.other,[.un],[]⟩),(85,⟨1,.other,[.un],[]⟩),(86,⟨1,.other,[.un],[]⟩),(87,⟨1,.slice 94 2 16,[.nil],[]⟩),(89,⟨1,.other,[.un],[]⟩),(90,⟨1,.slice 110 34 136,[.nil],[]⟩),(92,⟨1,.other,[.un],[]⟩),(93,⟨1,.other,[.un],[]⟩),(94,⟨2,.struct [(0,1,false),(1,1,false)],[.lit .i64 0,.lit .i64 0],[.int .i64,.int .i64]⟩),(95,⟨1,.other,[.un],[]⟩),(96,⟨1,.other,[.un],[]⟩),(97,⟨1,.other,[.un],[]⟩),(98,⟨1,.other,[.un],[]⟩),(99,⟨136,.array 4 55 34 true,[.aV false,.lit .u32 0,.lit .u32 0,.lit .u32 0,.lit .u32 0,.lit .u32 0,.lit .u32 0,.lit .u32 0,.lit .u32 0,.lit .u32 0,.lit .u32 0,.lit .u32 0,.lit .u32 0,.lit .u32 0,.lit .u32 0,.lit .u32 0,.lit .u32 0,.aV false,.lit .u32 0,.lit .u32 0,.lit .u32 0,.lit .u32 0,.lit .u32 0,.lit .u32 0,.lit .u32 0,.lit .u32 0,.lit .u32 0,.lit .u32 0,.lit .u32 0,.lit .u32 0,.lit .u32 0,.lit .u32 0,.lit .u32 0,.lit .u32 0,.aV false,.lit .u32 0,.lit .u32 0,.lit .u32 0,.lit .u32 0,.lit .u32 0,.lit .u32 0,.lit .u32 0,.lit .u32 0,.lit .u32 0,.lit .u32 0,.lit .u32 0,.lit .u32 0,.lit .u32 0,.lit .u32 0,.lit .u32 0,.lit .u32 0,.aV false,.lit .u32 0,.lit .u32 0,.lit .u32 0,.lit .u32 0,.lit .u32 0,.lit .u32 0,.lit .u32 0,.lit .u32 0,.lit .u32 0,.lit .u32 0,.lit .u32 0,.lit .u32 0,.lit .u32 0,.lit .u32 0,.lit .u32 0,.lit .u32 0,.aV false,.lit .u32 0,.lit .u32 0,.lit .u32 0,.lit .u32 0,.lit .u32 0,.lit .u32 0,.lit .u32 0,.lit .u32 0,.lit .u32 0,.lit .u32 0,.lit .u32 0,.lit .u32 0,.lit .u32 0,.lit .u32 0,.lit .u32 0,.lit .u32 0,.aV false,.lit .u32 0,.lit .u32 0,.lit .u32 0,.lit .u32 0,.lit .u32 0,.lit .u32 0,.lit .u32 0,.lit .u32 0,.lit .u32 0,.lit .u32 0,.lit .u32 0,.lit .u32 0,.lit .u32 0,.lit .u32 0,.lit .u32 0,.lit .u32 0,.aV false,.lit .u32 0,.lit .u32 0,.lit .u32 0,.lit .u32 0,.lit .u32 0,.lit .u32 0,.lit .u32 0,.lit .u32 0,.lit .u32 0,.lit .u32 0,.lit .u32 0,.lit .u32 0,.lit .u32 0,.lit .u32 0,.lit .u32 0,.lit .u32 0,.aV false,.lit .u32 0,.lit .u32 0,.lit .u32 0,.lit .u32 0,.lit .u32 0,.lit .u32 0,.lit .u32 0,.lit .u32 0,.lit .u32 0,.lit .u32 0,.lit .u32 0,.lit .u32 0,.lit .u32 0,.lit .u32 0,.lit .u32 0,.lit .u32 0],[]⟩),(101,⟨1,.other,[.un],[]⟩),(102,⟨1,.other,[.un],[]⟩),(103,⟨1,.other,[.un],[]⟩),(104,⟨1,.other,[.un],[]⟩),(106,⟨1,.other,[.un],[]⟩),(107,⟨1,.other,[.un],[]⟩),(108,⟨17,.struct [(0,1,false),(1,8,true),(9,8,true)],[.aV false,.lit .u32 0,.lit .u32 0,.lit .u32 0,.lit .u32 0,.lit .u32 0,.lit .u32 0,.lit .u32 0,.lit .u32 0,.lit .u32 0,.lit .u32 0,.lit .u32 0,.lit .u32 0,.lit .u32 0,.lit .u32 0,.lit .u32 0,.lit .u32 0],[.bool,.int .u32,.int .u32,.int .u32,.int .u32,.int .u32,.int .u32,.int .u32,.int .u32,.int .u32,.int .u32,.int .u32,.int .u32,.int .u32,.int .u32,.int .u32,.int .u32]⟩),(109,⟨34,.struct [(0,17,true),(17,17,true)],[.aV false,.lit .u32 0,.lit .u32 0,.lit .u32 0,.lit .u32 0,.lit .u32 0,.lit .u32 0,.lit .u32 0,.lit .u32 0,.lit .u32 0,.lit .u32 0,.lit .u32 0,.lit .u32 0,.lit .u32 0,.lit .u32 0,.lit .u32 0,.lit .u32 0,.aV false,.lit .u32 0,.lit .u32 0,.lit .u32 0,.lit .u32 0,.lit .u32 0,.lit .u32 0,.lit .u32 0,.lit .u32 0,.lit .u32 0,.lit .u32 0,.lit .u32 0,.lit .u32 0,.lit .u32 0,.lit .u32 0,.lit .u32 0,.lit .u32 0],[]⟩),(110,⟨34,.struct [(0,17,true),(17,17,true)],[.aV false,.lit .u32 0,.lit .u32 0,.lit .u32 0,.lit .u32 0,.lit .u32 0,.lit .u32 0,.lit .u32 0,.lit .u32 0,.lit .u32 0,.lit .u32 0,.lit .u32 0,.lit .u32 0,.lit .u32 0,.lit .u32 0,.lit .u32 0,.lit .u32 0,.aV false,.lit .u32 0,.lit .u32 0,.lit .u32 0,.lit .u32 0,.lit .u32 0,.lit .u32 0,.lit .u32 0,.lit .u32 0,.lit .u32 0,.lit .u32 0,.lit .u32 0,.lit .u32 0,.lit .u32 0,.lit .u32 0,.lit .u32 0,.lit .u32 0],[.bool,.int .u32,.int .u32,.int .u32,.int .u32,.int .u32,.int .u32,.int .u32,.int .u32,.int .u32,.int .u32,.int .u32,.int .u32,.int .u32,.int .u32,.int .u32,.int .u32,.bool,.int .u32,.int .u32,.int .u32,.int .u32,.int .u32,.int .u32,.int .u32,.int .u32,.int .u32,.int .u32,.int .u32,.int .u32,.int .u32,.int .u32,.int .u32,.int .u32]⟩),(112,⟨1,.other,[.un],[]⟩),(113,⟨1,.slice 49 1 4,[.nil],[]⟩),(114,⟨1,.slice 49 1 4,[.nil],[]⟩),(115,⟨1,.other,[.un],[]⟩),(116,⟨1,.other,[.un],[]⟩),(117,⟨1,.int .u64,[.lit .u64 0],[]⟩),(118,⟨1,.other,[.un],[]⟩),(119,⟨1,.other,[.un],[]⟩),(120,⟨6,.struct [(0,1,false),(1,1,false),(2,1,false),(3,1,false),(4,1,false),(5,1,false)],[.lit .i64 0,.lit .i64 0,.lit .i64 0,.lit .i64 0,.lit .i64 0,.nil],[]⟩),(121,⟨6,.struct [(0,1,false),(1,1,false),(2,1,false),(3,1,false),(4,1,false),(5,1,false)],[.lit .i64 0,.lit .i64 0,.lit .i64 0,.lit .i64 0,.lit .i64 0,.nil],[]⟩),(122,⟨3,.struct [(0,1,false),(1,1,false),(2,1,false)],[.lit .i64 0,.lit .i64 0,.lit .u8 0],[]⟩),(123,⟨3,.struct [(0,1,false),(1,1,false),(2,1,false)],[.lit .i64 0,.lit .i64 0,.lit .u8 0],[.int .i64,.int .i64,.int .u8]⟩),(124,⟨4,.struct [(0,1,false),(1,3,true)],[.lit .i64 0,.lit .i64 0,.lit .i64 0,.lit .u8 0],[]⟩),(125,⟨4,.struct [(0,1,false),(1,3,true)],[.lit .i64 0,.lit .i64 0,.lit .i64 0,.lit .u8 0],[.int .i64,.int .i64,.int .i64,.int .u8]⟩),(126,⟨12,.struct [(0,1,false),(1,1,false),(2,1,false),(3,1,false),(4,1,false),(5,1,false),(6,1,false),(7,1,false),(8,1,false),(9,1,false),(10,1,false),(11,1,false)],[.lit .i64 0,.lit .i64 0,.aV false,.lit .i64 0,.lit .i64 0,.lit .i64 0,.lit .i64 0,.lit .i64 0,.nil,.lit .i64 0,.lit .i64 0,.lit .i64 0],[]⟩),(127,⟨12,.struct [(0,1,false),(1,1,false),(2,1,false),(3,1,false),(4,1,false),(5,1,false),(6,1,false),(7,1,false),(8,1,false),(9,1,false),(10,1,false),(11,1,false)],[.lit .i64 0,.lit .i64 0,.aV false,.lit .i64 0,.lit .i64 0,.lit .i64 0,.lit .i64 0,.lit .i64 0,.nil,.lit .i64 0,.lit .i64 0,.lit .i64 0],[]⟩),(128,⟨1,.other,[.un],[]⟩),(130,⟨1,.other,[.un],[]⟩),(131,⟨1,.int .i16,[.lit .i16 0],[]⟩),(132,⟨1,.int .u16,[.lit .u16 0],[]⟩),(133,⟨6,.struct [(0,1,false),(1,1,false),(2,1,false),(3,1,false),(4,1,false),(5,1,false)],[.lit .u8 0,.lit .u8 0,.lit .i16 0,.lit .i16 0,.lit .i16 0,.lit .u16 0],[]⟩),(134,⟨6,.struct [(0,1,false),(1,1,false),(2,1,false),(3,1,false),(4,1,false),(5,1,false)],[.lit .u8 0,.lit .u8 0,.lit .i16 0,.lit .i16 0,.lit .i16 0,.lit .u16 0],[.int .u8,.int .u8,.int .i16,.int .i16,.int .i16,.int .u16]⟩),(135,⟨5,.struct [(0,1,false),(1,1,false),(2,1,false),(3,1,false),(4,1,false)],[.lit .u16 0,.lit .u16 0,.lit .u16 0,.lit .u16 0,.lit .u8 0],[]⟩),(136,⟨5,.struct [(0,1,false),(1,1,false),(2,1,false),(3,1,false),(4,1,false)],[.lit .u16 0,.lit .u16 0,.lit .u16 0,.lit .u16 0,.lit .u8 0],[.int .u16,.int .u16,.int .u16,.int .u16,.int .u8]⟩),(137,⟨1,.other,[.un],[]⟩),(138,⟨1,.other,[.un],[]⟩),(139,⟨1,.map 3 3 (.one (.int .i64)) .int false,[.un],[]⟩),(140,⟨9,.struct [(0,1,false),(1,1,false),(2,1,false),(3,1,false),(4,1,false),(5,1,false),(6,1,false),(7,1,false),(8,1,false)],[.lit .i64 0,.str fun _=>jF,.lit .u8 0,.aV false,.lit .i64 0,.lit .i64 0,.lit .i64 0,.lit .u8 0,.aV false],[]⟩),(141,⟨9,.struct [(0,1,false),(1,1,false),(2,1,false),(3,1,false),(4,1,false),(5,1,false),(6,1,false),(7,1,false),(8,1,false)],[.lit .i64 0,.str fun _=>jF,.lit .u8 0,.aV false,.lit .i64 0,.lit .i64 0,.lit .i64 0,.lit .u8 0,.aV false],[.int .i64,.str,.int .u8,.bool,.int .i64,.int .i64,.int .i64,.int .u8,.bool]⟩),(142,⟨3,.array 3 3 1 false,[.lit .i64 0,.lit .i64 0,.lit .i64 0],[.int .i64,.int .i64,.int .i64]⟩),(143,⟨1,.slice 148 12 88,[.nil],[]⟩),(145,⟨1,.other,[.un],[]⟩),(146,⟨1,.slice 73 4 32,[.nil],[]⟩),(147,⟨12,.struct [(0,9,true),(9,1,false),(10,1,false),(11,1,false)],[.lit .i64 0,.str fun _=>jF,.lit .u8 0,.aV false,.lit .i64 0,.lit .i64 0,.lit .i64 0,.lit .u8 0,.aV false,.lit .i64 0,.lit .i64 0,.lit .i64 0],[]⟩),(148,⟨12,.struct [(0,9,true),(9,1,false),(10,1,false),(11,1,false)],[.lit .i64 0,.str fun _=>jF,.lit .u8 0,.aV false,.lit .i64 0,.lit .i64 0,.lit .i64 0,.lit .u8 0,.aV false,.lit .i64 0,.lit .i64 0,.lit .i64 0],[.int .i64,.str,.int .u8,.bool,.int .i64,.int .i64,.int .i64,.int .u8,.bool,.int .i64,.int .i64,.int .i64]⟩),(149,⟨1,.other,[.un],[]⟩),(150,⟨1,.other,[.un],[]⟩),(151,⟨1,.other,[.un],[]⟩),(152,⟨1,.other,[.un],[]⟩),(153,⟨1,.other,[.un],[]⟩),(154,⟨1,.other,[.un],[]⟩),(155,⟨1,.other,[.un],[]⟩),(156,⟨1,.other,[.un],[]⟩),(157,⟨1,.other,[.un],[]⟩),(158,⟨1,.slice 162 6 48,[.nil],[]⟩),(160,⟨1,.other,[.un],[]⟩),(161,⟨6,.array 6 3 1 false,[.lit .i64 0,.lit .i64 0,.lit .i64 0,.lit .i64 0,.lit .i64 0,.lit .i64 0],[.int .i64,.int .i64,.int .i64,.int .i64,.int .i64,.int .i64]⟩),(162,⟨6,.array 6 3 1 false,[.lit .i64 0,.lit .i64 0,.lit .i64 0,.lit .i64 0,.lit .i64 0,.lit .i64 0],[.int .i64,.int .i64,.int .i64,.int .i64,.int .i64,.int .i64]⟩),(163,⟨1,.other,[.un],[]⟩),(164,⟨1,.other,[.un],[]⟩),(165,⟨1,.other,[.un],[]⟩),(166,⟨2,.struct [(0,1,false),(1,1,false)],[.lit .i64 0,.nil],[]⟩),(167,⟨2,.struct [(0,1,false),(1,1,false)],[.lit .i64 0,.nil],[]⟩),(168,⟨1,.other,[.un],[]⟩),(169,⟨1,.other,[.un],[]⟩),(170,⟨1,.other,[.un],[]⟩),(171,⟨1,.other,[.un],[]⟩),(172,⟨1,.other,[.un],[]⟩),(173,⟨1,.other,[.un],[]⟩),(174,⟨1,.other,[.un],[]⟩),(176,⟨1,.other,[.un],[]⟩),(177,⟨1,.other,[.un],[]⟩),(178,⟨1,.other,[.un],[]⟩),(179,⟨1,.other,[.un],[]⟩),(180,⟨1,.other,[.un],[]⟩),(181,⟨1,.other,[.un],[]⟩),(182,⟨1,.other,[.un],[]⟩),(183,⟨1,.other,[.un],[]⟩),(184,⟨1,.other,[.un],[]⟩),(185,⟨1,.other,[.un],[]⟩),(186,⟨1,.other,[.un],[]⟩),(188,⟨1,.other,[.un],[]⟩),(189,⟨1,.slice 108 17 68,[.nil],[]⟩),(190,⟨1,.other,[.un],[]⟩),(191,⟨1,.other,[.un],[]⟩),(192,⟨1,.other,[.un],[]⟩),(193,⟨1,.other,[.un],[]⟩),(194,⟨1,.other,[.un],[]⟩),(195,⟨1,.other,[.un],[]⟩),(196,⟨1,.other,[.un],[]⟩),(197,⟨1,.other,[.un],[]⟩),(199,⟨1,.other,[.un],[]⟩),(200,⟨1,.other,[.un],[]⟩),(201,⟨1,.int .u64,[.lit .u64 0],[]⟩),(202,⟨1,.other,[.un],[]⟩),(203,⟨4,.struct [(0,1,false),(1,1,false),(2,1,false),(3,1,false)],[.lit .u8 0,.lit .u8 0,.lit .u8 0,.aV false],[]⟩),(204,⟨4,.struct [(0,1,false),(1,1,false),(2,1,false),(3,1,false)],[.lit .u8 0,.lit .u8 0,.lit .u8 0,.aV false],[.int .u8,.int .u8,.int .u8,.bool]⟩),(206,⟨1,.other,[.un],[]⟩),(207,⟨4,.struct [(0,1,false),(1,1,false),(2,1,false),(3,1,false)],[.lit .u8 0,.lit .u8 0,.aV false,.aV false],[]⟩),(208,⟨4,.struct [(0,1,false),(1,1,false),(2,1,false),(3,1,false)],[.lit .u8 0,.lit .u8 0,.aV false,.aV false],[.int .u8,.int .u8,.bool,.bool]⟩),(209,⟨1,.slice 123 3 24,[.nil],[]⟩),(210,⟨1,.other,[.un],[]⟩),(211,⟨1,.other,[.un],[]⟩),(213,⟨1,.other,[.un],[]⟩),(214,⟨1,.other,[.un],[]⟩),(215,⟨1,.other,[.un],[]⟩),(216,⟨1,.map 219 3 (.arr 2 (.int .i64)) .int false,[.un],[]⟩),(218,⟨1,.other,[.un],[]⟩),(219,⟨2,.array 2 3 1 false,[.lit .i64 0,.lit .i64 0],[.int .i64,.int .i64]⟩),(220,⟨1,.other,[.un],[]⟩),(221,⟨1,.other,[.un],[]⟩),(222,⟨1,.other,[.un],[]⟩),(223,⟨1,.other,[.un],[]⟩),(224,⟨1,.other,[.un],[]⟩),(225,⟨1,.other,[.un],[]⟩),(226,⟨1,.other,[.un],[]⟩),(227,⟨1,.other,[.un],[]⟩),(228,⟨1,.other,[.un],[]⟩),(229,⟨1,.other,[.un],[]⟩),(230,⟨1,.other,[.un],[]⟩),(231,⟨1,.other,[.un],[]⟩),(232,⟨1,.other,[.un],[]⟩),(233,⟨5,.struct [(0,1,false),(1,1,false),(2,1,false),(3,1,false),(4,1,false)],[.lit .i64 0,.lit .i64 0,.lit .i64 0,.lit .i64 0,.lit .i64 0],[]⟩),(234,⟨5,.struct [(0,1,false),(1,1,false),(2,1,false),(3,1,false),(4,1,false)],[.lit .i64 0,.lit .i64 0,.lit .i64 0,.lit .i64 0,.lit .i64 0],[.int .i64,.int .i64,.int .i64,.int .i64,.int .i64]⟩),(235,⟨1,.other,[.un],[]⟩),(236,⟨1,.other,[.un],[]⟩),(237,⟨1,.other,[.un],[]⟩),(239,⟨1,.other,[.un],[]⟩),(241,⟨1,.other,[.un],[]⟩),(242,⟨1,.other,[.un],[]⟩),(243,⟨1,.other,[.un],[]⟩),(244,⟨1,.other,[.un],[]⟩),(245,⟨1,.other,[.un],[]⟩),(246,⟨1,.other,[.un],[]⟩),(248,⟨1,.other,[.un],[]⟩),(249,⟨1,.other,[.un],[]⟩),(250,⟨1,.other,[.un],[]⟩),(251,⟨1,.other,[.un],[]⟩),(252,⟨1,.other,[.un],[]⟩),(253,⟨1,.other,[.un],[]⟩),(254,⟨1,.other,[.un],[]⟩),(255,⟨1,.other,[.un],[]⟩),(256,⟨1,.other,[.un],[]⟩),(257,⟨1,.other,[.un],[]⟩),(258,⟨1,.other,[.un],[]⟩),(259,⟨1,.other,[.un],[]⟩),(260,⟨1,.other,[.un],[]⟩),(261,⟨1,.other,[.un],[]⟩),(262,⟨1,.other,[.un],[]⟩),(263,⟨1,.other,[.un],[]⟩),(264,⟨1,.other,[.un],[]⟩),(265,⟨1,.other,[.un],[]⟩),(266,⟨1,.other,[.un],[]⟩),(267,⟨1,.other,[.un],[]⟩),(268,⟨1,.other,[.un],[]⟩),(269,⟨1,.other,[.un],[]⟩),(270,⟨1,.other,[.un],[]⟩),(271,⟨1,.map 9 3 (.one .str) .int false,[.un],[]⟩),(272,⟨1,.other,[.un],[]⟩),(273,⟨1,.other,[.un],[]⟩),(274,⟨1,.other,[.un],[]⟩),(275,⟨1,.other,[.un],[]⟩),(276,⟨1,.other,[.un],[]⟩),(277,⟨1,.other,[.un],[]⟩),(278,⟨1,.other,[.un],[]⟩),(280,⟨1,.other,[.un],[]⟩),(281,⟨1,.other,[.un],[]⟩),(282,⟨1,.other,[.un],[]⟩),(283,⟨1,.other,[.un],[]⟩),(284,⟨1,.other,[.un],[]⟩),(285,⟨1,.other,[.un],[]⟩),(286,⟨1,.map 142 3 (.arr 3 (.int .i64)) .int false,[.un],[]⟩),(287,⟨1,.other,[.un],[]⟩),(288,⟨1,.other,[.un],[]⟩),(289,⟨1,.other,[.un],[]⟩),(290,⟨1,.other,[.un],[]⟩),(291,⟨1,.other,[.un],[]⟩),(292,⟨1,.other,[.un],[]⟩),(293,⟨1,.other,[.un],[]⟩),(294,⟨1,.other,[.un],[]⟩),(295,⟨1,.other,[.un],[]⟩),(296,⟨1,.slice 37 1 8,[.nil],[]⟩),(297,⟨1,.other,[.un],[]⟩),(298,⟨1,.other,[.un],[]⟩),(299,⟨1,.other,[.un],[]⟩),(300,⟨1,.other,[.un],[]⟩),(301,⟨1,.other,[.un],[]⟩),(302,⟨1,.other,[.un],[]⟩),(303,⟨1,.other,[.un],[]⟩),(304,⟨1,.other,[.un],[]⟩),(306,⟨1,.other,[.un],[]⟩),(307,⟨1,.other,[.un],[]⟩),(308,⟨1,.slice 310 3 24,[.nil],[]⟩),(309,⟨3,.struct [(0,1,false),(1,1,false),(2,1,false)],[.lit .i64 0,.lit .i64 0,.lit .i64 0],[]⟩),(310,⟨3,.struct [(0,1,false),(1,1,false),(2,1,false)],[.lit .i64 0,.lit .i64 0,.lit .i64 0],[.int .i64,.int .i64,.int .i64]⟩),(311,⟨1,.other,[.un],[]⟩),(312,⟨1,.other,[.un],[]⟩),(313,⟨1,.other,[.un],[]⟩),(314,⟨1,.other,[.un],[]⟩),(315,⟨1,.other,[.un],[]⟩),(316,⟨1,.other,[.un],[]⟩),(317,⟨1,.other,[.un],[]⟩),(318,⟨1,.other,[.un],[]⟩),(319,⟨11,.array 11 289 1 false,[.un,.un,.un,.un,.un,.un,.un,.un,.un,.un,.un],[]⟩),(320,⟨1,.other,[.un],[]⟩),(321,⟨1,.other,[.un],[]⟩),(322,⟨1,.other,[.un],[]⟩),(323,⟨4,.struct [(0,1,false),(1,1,false),(2,1,false),(3,1,false)],[.un,.un,.un,.str fun _=>jF],[]⟩),(325,⟨0,.array 0 16 1 false,[],[]⟩),(326,⟨0,.struct [(0,0,true)],[],[]⟩),(328,⟨1,.other,[.un],[]⟩),(331,⟨1,.other,[.un],[]⟩),(332,⟨1,.other,[.un],[]⟩),(335,⟨11,.struct [(0,1,false),(1,1,false),(2,1,false),(3,1,false),(4,1,false),(5,1,false),(6,1,false),(7,1,false),(8,1,false),(9,1,false),(10,1,false)],[.lit .u64 0,.lit .u64 0,.lit .u32 0,.lit .u8 0,.lit .u8 0,.lit .u8 0,.lit .u8 0,.un,.un,.lit .i32 0,.lit .i32 0],[]⟩)]
theorem as1:Ce.all (fun p=>gP Tryz.prog p.1 p.2)=true:=by kernel_rfl
theorem ad8{α:Type}:∀ {l:List (Nat × α)} {k:Nat} {x : α},al l k=some x->(k,x)∈l
 | (j,y)::l,k,x,h=>by
  rw [cO] at h;split at h
  . rename_i hk;subst hk;cases h;exact .head _
  . exact .tail _ (ad8 h)
theorem ad9{P:Program}{tb:lE}(h:tb.all (fun p=>gP P p.1 p.2)=true):dp P tb:=fun _ _ hl=>fc.1 h _ (ad8 hl)
theorem zQ:dp Tryz.prog Ce:=ad9 as1
def Cf:List (Nat×Tc) := [(3,.int),(5,.u8),(41,.wx),(45,.cu),(49,.u32),(52,.jm),(55,.cE),(70,.int),(73,.ld),(94,.wx),(108,.jm),(110,.cE),(121,.dW),(123,.slot),(125,.ai),(127,.ar),(141,.box),(148,.mid),(162,.sy),(167,.cD),(204,.A9),(208,.Ba),(234,.dO),(310,.qW)]
open Go.RowKit
def qt:List aC->Prop
 | []=>True
 | c::cs=>aE Tryz.prog c/\qt cs
theorem qt.mem:∀ {cs:List aC},qt cs->∀ c∈cs,aE Tryz.prog c
 | [],_,c,hc=>by cases hc
 | d::cs,h,c,hc=>by
  rcases gD.1 hc with rfl|hc
  . exact h.1
  . exact qt.mem h.2 c hc
def sR:List fi->Prop
 | []=>True
 | c::cs=>jb Tryz.prog c/\sR cs
theorem sR.mem:∀ {cs:List fi},sR cs->∀ c∈cs,jb Tryz.prog c
 | [],_,c,hc=>by cases hc
 | d::cs,h,c,hc=>by
  rcases gD.1 hc with rfl|hc
  . exact h.1
  . exact sR.mem h.2 c hc
def Io:List It->Prop
 | []=>True
 | c::cs=>sN Tryz.prog c/\Io cs
theorem Io.mem:∀ {cs:List It},Io cs->∀ c∈cs,sN Tryz.prog c
 | [],_,c,hc=>by cases hc
 | d::cs,h,c,hc=>by
  rcases gD.1 hc with rfl|hc
  . exact h.1
  . exact Io.mem h.2 c hc
def No(cs:List aC)(fs:List fi)(fz:List (Nat×List Nat))(fx:Bool)(nb:Nat:=0):Cx := { ty:=Ce,cs:=cs,tc:=Cf,fs:=fs,fz:=fz,fx:=fx,nb:=nb }
def T8(cs:List aC)(fs:List fi)(fz:List (Nat×List Nat)):Cx:=No cs fs fz false
def cx(cs:List aC)(fs:List fi):Cx:=T8 cs fs []
def cxk(cs:List aC)(fs:List fi)(fz kp:List (Nat×List Nat))(sc:List (Nat×mF))(ul:List Nat):Cx := { ty:=Ce,cs:=cs,tc:=Cf,fs:=fs,fz:=fz,kp:=kp,sc:=sc,ul:=ul }
structure ED where
 fz:List (Nat×List Nat) := []
 kp:List (Nat×List Nat) := []
 sc:List (Nat×mF) := []
 ul:List Nat := []
 jn:List (Nat×List Nat) := []
 tc:List (Nat×Tc) := []
 lt:List (Nat×zm) := []
 ct:List Nat := []
def wI(o:ED)(cs:List aC)(fs:List fi)(fx:Bool)(nb:Nat:=0):Cx:=⟨Ce,cs,o.tc++Cf,fs,o.fz,fx,o.kp,o.sc,o.ul,o.jn,o.lt,nb,o.ct,[],none⟩
theorem bZ(o : ED)(cs : List aC)(aS : qt cs)(fs : List fi)(jo : sR fs)(hf : Tryz.prog.funcs[c.f]? = some fn)(hb : (fn.body.isNone || fn.name == "runtime.NumGoroutine" || !codeOk (lZ fs) o.sc o.lt fn.ntmps (l5 fn)) = false)(h:∀ ah res,c.go ah=some res->res.pre ()->∃ Ls,(zu (wI o cs fs false) Ls fn ah res.av).P):aE Tryz.prog c:=by
 simp only [lU,iR] at hb;exact Im (C:=wI o cs fs false) zQ ⟨aS.mem,jo.mem,fun _ h=>by cases h⟩ rfl (by kernel_rfl) hf hb.1.1 hb.1.2 hb.2 h
theorem Np(o : ED){c : fi}(cs : List aC)(aS : qt cs)(fs : List fi)(jo : sR fs)(hf : Tryz.prog.funcs[c.f]? = some fn)(hb : (fn.body.isNone || fn.name == "runtime.NumGoroutine" || !codeOk (lZ fs) o.sc o.lt fn.ntmps (l5 fn)) = false)(h:∀ ah es res,c.go ah es=some res->res.pre ()->∃ Ls,(BK (wI o cs fs c.fix c.n) Ls fn ah es c.n res.av res.es).P):jb Tryz.prog c:=by
 simp only [lU,iR] at hb;exact ad7 (C:=wI o cs fs c.fix c.n) rfl zQ ⟨aS.mem,jo.mem,fun _ h=>by cases h⟩ rfl (by kernel_rfl) hf hb.1.1 hb.1.2 hb.2 h
theorem aeb(o : ED)(cs : List aC)(aS : qt cs)(fs : List fi)(jo : sR fs)(ng : List It)(as2 : Io ng)(hf : Tryz.prog.funcs[c.f]? = some fn)(hb : (fn.body.isNone || fn.name == "runtime.NumGoroutine" || !codeOk (lZ fs) o.sc o.lt fn.ntmps (l5 fn)) = false)(h:∀ ah res,c.go ah=some res->res.pre ()->∃ Ls,(zu { wI o cs fs false with ng:=ng } Ls fn ah res.av).P):aE Tryz.prog c:=by
 simp only [lU,iR] at hb;exact Im (C := { wI o cs fs false with ng:=ng }) zQ ⟨aS.mem,jo.mem,as2.mem⟩ rfl (by kernel_rfl) hf hb.1.1 hb.1.2 hb.2 h
theorem aec(o : ED){c : It}(cs : List aC)(aS : qt cs)(hf : Tryz.prog.funcs[c.f]? = some fn)(hb : (fn.body.isNone || fn.name == "runtime.NumGoroutine" || !codeOk [999999999] o.sc o.lt fn.ntmps (l5 fn)) = false)(h:∀ ah res,c.go ah=some res->res.pre ()->∀ l,∃ Ls,(R9 (wI o cs [] false 1) Ls fn ah l res).P):sN Tryz.prog c:=by
 simp only [lU,iR] at hb;exact asV (C:=wI o cs [] false 1) zQ ⟨aS.mem,(fun _ h=>by cases h),fun _ h=>by cases h⟩ rfl (by kernel_rfl) hf hb.1.1 hb.1.2 hb.2 h
theorem aed{α:Type}:∀ {l m:List (Nat × α)} {k:Nat} {x : α},al (l++m) k=some x->al l k=some x\/al m k=some x
 | [],m,k,x,h => .inr h
 | (j,y)::l,m,k,x,h=>by
  rw [qL,cO] at h;rw [cO];split at h
  . rename_i hk;rw [aG hk];exact .inl h
  . rename_i hk;rw [ax hk];exact aed h
theorem as3{P:Program}{W t:lE}(h:(W.all fun p=>gP P p.1 p.2)=true)(h2:dp P t):dp P (W++t):=fun T i hl=>(aed hl).elim (ad9 h T i) (h2 T i)
theorem as4(o : ED)(W : lE)(hW : (W.all fun p => gP Tryz.prog p.1 p.2) = true)(cs : List aC)(aS : qt cs)(fs : List fi)(jo : sR fs)(hf : Tryz.prog.funcs[c.f]? = some fn)(hb : (fn.body.isNone || fn.name == "runtime.NumGoroutine" || !codeOk (lZ fs) o.sc o.lt fn.ntmps (l5 fn)) = false)(h:∀ ah res,c.go ah=some res->res.pre ()->∃ Ls,(zu { wI o cs fs false with ty:=W++Ce } Ls fn ah res.av).P):aE Tryz.prog c:=by
 simp only [lU,iR] at hb;exact Im (C := { wI o cs fs false with ty:=W++Ce }) (as3 hW zQ) ⟨aS.mem,jo.mem,fun _ h=>by cases h⟩ rfl (by kernel_rfl) hf hb.1.1 hb.1.2 hb.2 h
theorem as5(fz kp : List (Nat × List Nat))(sc : List (Nat × mF))(cs : List aC)(aS : qt cs)(fs : List fi)(jo : sR fs)(hf : Tryz.prog.funcs[c.f]? = some fn)(hb : (fn.body.isNone || fn.name == "runtime.NumGoroutine" || !codeOk (lZ fs) sc [] fn.ntmps (l5 fn)) = false)(h:∀ ah res,c.go ah=some res->res.pre ()->∃ Ls,(zu (cxk cs fs fz kp sc []) Ls fn ah res.av).P):aE Tryz.prog c:=by
 simp only [lU,iR] at hb;exact Im (C:=cxk cs fs fz kp sc []) zQ ⟨aS.mem,jo.mem,fun _ h=>by cases h⟩ rfl (by kernel_rfl) hf hb.1.1 hb.1.2 hb.2 h
theorem as6(fz : List (Nat × List Nat))(cs : List aC)(aS : qt cs)(fs : List fi)(jo : sR fs)(hf : Tryz.prog.funcs[c.f]? = some fn)(hb : (fn.body.isNone || fn.name == "runtime.NumGoroutine" || !codeOk (lZ fs) [] [] fn.ntmps (l5 fn)) = false)(h:∀ ah res,c.go ah=some res->res.pre ()->∃ Ls,(zu (T8 cs fs fz) Ls fn ah res.av).P):aE Tryz.prog c:=by
 simp only [lU,iR] at hb;exact Im (C:=T8 cs fs fz) zQ ⟨aS.mem,jo.mem,fun _ h=>by cases h⟩ rfl (by kernel_rfl) hf hb.1.1 hb.1.2 hb.2 h
theorem as7(cs : List aC)(aS : qt cs)(fs : List fi)(jo : sR fs)(hf : Tryz.prog.funcs[c.f]? = some fn)(hb : (fn.body.isNone || fn.name == "runtime.NumGoroutine" || !codeOk (lZ fs) [] [] fn.ntmps (l5 fn)) = false)(h:∀ ah res,c.go ah=some res->res.pre ()->∃ Ls,(zu (cx cs fs) Ls fn ah res.av).P):aE Tryz.prog c:=as6 [] cs aS fs jo hf hb h
theorem bD(cs : List aC)(aS : qt cs)(hf : Tryz.prog.funcs[c.f]? = some fn)(hb : (fn.body.isNone || fn.name == "runtime.NumGoroutine" || !codeOk [] [] [] fn.ntmps (l5 fn)) = false)(h:∀ ah res,c.go ah=some res->res.pre ()->∃ Ls,(zu (cx cs []) Ls fn ah res.av).P):aE Tryz.prog c:=as7 cs aS [] trivial hf hb h
theorem as8(fz : List (Nat × List Nat)){c : fi}(cs : List aC)(aS : qt cs)(fs : List fi)(jo : sR fs)(hf : Tryz.prog.funcs[c.f]? = some fn)(hb : (fn.body.isNone || fn.name == "runtime.NumGoroutine" || !codeOk (lZ fs) [] [] fn.ntmps (l5 fn)) = false)(h:∀ ah es res,c.go ah es=some res->res.pre ()->∃ Ls,(BK (No cs fs fz c.fix c.n) Ls fn ah es c.n res.av res.es).P):jb Tryz.prog c:=by
 simp only [lU,iR] at hb;exact ad7 (C:=No cs fs fz c.fix c.n) rfl zQ ⟨aS.mem,jo.mem,fun _ h=>by cases h⟩ rfl (by kernel_rfl) hf hb.1.1 hb.1.2 hb.2 h
theorem Ip{c : fi}(cs : List aC)(aS : qt cs)(fs : List fi)(jo : sR fs)(hf : Tryz.prog.funcs[c.f]? = some fn)(hb : (fn.body.isNone || fn.name == "runtime.NumGoroutine" || !codeOk (lZ fs) [] [] fn.ntmps (l5 fn)) = false)(h:∀ ah es res,c.go ah es=some res->res.pre ()->∃ Ls,(BK (No cs fs [] c.fix c.n) Ls fn ah es c.n res.av res.es).P):jb Tryz.prog c:=as8 [] cs aS fs jo hf hb h
theorem bk(e : α)(h:∀ x,e=x->G):G:=h e rfl
theorem tI(l:List VC)(A:Fm):(Fm.vc l A).P=(pz l/\A.P):=rfl
theorem T9(c:Unit->Bool)(A B:Fm):(Fm.br c A B).P=((c ()=true->A.P)/\(c ()=false->B.P)):=rfl
theorem Iq(l:List VC):(Fm.fin l).P=pz l:=rfl
theorem u4(A B:Fm):(Fm.and A B).P=(A.P/\B.P):=rfl
theorem Ua(F:Tc->Type)(h:t=t)(x:F t):zp F h x=x:=rfl
theorem fL(k:Nat):(NatCast.natCast k:Int)=(k:Int):=rfl
theorem aee(k:Nat):Nat.succ k=k+1:=rfl
theorem as9:pz []=True:=rfl
theorem oQ(c:VC):pz [c]=c ():=rfl
theorem EE(c d:VC)(l:List VC):pz (c::d::l)=(c ()/\pz (d::l)):=rfl
theorem eta(f:Unit -> α):∃ x,f=fun _=>x:=⟨f (),rfl⟩
theorem Ub(k:Nat):((k:Int) - 1).toNat=k - 1:=oo
theorem ay:(∀ l A,(Fm.vc l A).P=(pz l/\A.P))/\(∀ c A B,(Fm.br c A B).P=((c ()=true->A.P)/\(c ()=false->B.P)))/\(∀ A B,(Fm.and A B).P=(A.P/\B.P))/\(∀ l,(Fm.fin l).P=pz l)/\(pz []=True)/\(∀ c,pz [c]=c ())/\(∀ c d l,pz (c::d::l)=(c ()/\pz (d::l)))/\(∀ (F:Tc->Type) (t:Tc) (h:t=t) (x:F t),zp F h x=x)/\(∀ k:Nat,(NatCast.natCast k:Int)=(k:Int))/\(∀ k,Nat.succ k=k+1)/\(∀ k:Nat,((k:Int)).toNat=k)/\(∀ k:Nat,((k:Int) - 1).toNat=k - 1)/\(∀ (p:Prop) [Decidable p],(decide p=true)=p)/\(∀ (p:Prop) [Decidable p],(decide p=false)=¬ p)/\(∀ (α β:Type) (f : α -> β) (a : α) (l:List α),List.map f (a::l)=f a::List.map f l)/\(∀ (α β:Type) (f : α -> β),List.map f [] = [])/\(∀ (α:Type) (a b : α),cond true a b=a)/\(∀ (α:Type) (a b : α),cond false a b=b) :=
 ⟨tI,T9,u4,Iq,as9,oQ,EE,fun _ _ h x=>Ua _ h x,fL,aee,fB,Ub,fun _ _=>aU,fun _ _=>propext ew,fun _ _ _ _ _=>rfl,fun _ _ _=>rfl,fun _ _ _=>rfl,fun _ _ _=>rfl⟩
theorem fm{F:Fm}(q:Q)(h:Q->F.P:=by intro q; (conv=>arg 1; cbv); simp (maxSteps:=4000000) only [ay,aJ,aH,aO]; exact q):F.P:=h q
def AV.valOf:AV->Value
 | .int k n => .int k (n ())
 | .lit k n => .int k n
 | .bool b => .bool (b ())
 | .aV b => .bool b
 | .str s => .string (s ())
 | _=>undef
def AV.flat:AV->Bool
 | .int _ _=>true
 | .lit _ _=>true
 | .bool _=>true
 | .aV _=>true
 | .str _=>true
 | _=>false
section
variable{w w':World}{ρ ρ':Nat->Option Rl}{base lD:Nat}{ro ro':Nat->Prop}{v:Value}
theorem aj.Ir{x:AV}(hx:x.flat=true)(h:aj w ρ base ro x v):v=x.valOf:=by
 cases x<;>simp only [AV.flat,fk] at hx
 . exact h.jU
 . exact h.nO
 . exact h.qb
 . exact h.re
 . exact h.y7
theorem ata{x:AV}(hx:x.flat=true):aj w ρ base ro x x.valOf:=by
 cases x<;>simp only [AV.flat,fk] at hx
 . exact .int _ _
 . exact .lit _ _
 . exact .bool _
 . exact .aV _
 . exact .str _
theorem bn.Ir:∀ {l:List AV} {vs:List Value},l.all AV.flat=true->bn w ρ base ro l vs->vs=l.map AV.valOf
 | [],vs,_,h=>h.none
 | x::l,vs,hl,h=>by
  simp only [AN,aD] at hl
  cases vs with
  | nil=>have:=h.1; simp at this
  | cons v vs =>
   have h1:=h.2 0 x v rfl rfl;have h2:bn w ρ base ro l vs:=⟨by have:=h.1; simpa using this,fun j y u hy hu=>h.2 (j+1) y u Bg (by simpa using hu)⟩
   rw [h1.Ir hl.1,bn.Ir hl.2 h2];rfl
theorem Nq:∀ {l:List AV},l.all AV.flat=true->bn w ρ base ro l (l.map AV.valOf)
 | [],_ => .nil
 | x::l,hl=>by
  simp only [AN,aD] at hl;exact .cons (ata hl.1) (Nq hl.2)
theorem aj.aef{l:List AV}(hl:l.all AV.flat=true)(h:aj w ρ base ro (.agg l) v):v = .agg (l.map AV.valOf).toArray:=by
 obtain⟨vs,rfl,hE⟩:=h.rf;rw [hE.Ir hl]
theorem atb{l:List AV}(hl:l.all AV.flat=true):aj w ρ base ro (.agg l) (.agg (l.map AV.valOf).toArray):=by
 have hE:bn w ρ base ro l (l.map AV.valOf):=Nq hl;exact .agg _ _ hE.1 hE.2
theorem Uc{x y:AV}{u:Value}(hx:aj w ρ base ro x u)(hy:aj w ρ base ro y v):aj w ρ base ro (.bp [x,y]) (.tuple #[u,v]):=by
 have hE:bn w ρ base ro [x,y] [u,v] := .cons hx (.cons hy .nil);exact .bp _ _ hE.1 hE.2
theorem aj.Nr{fr:Bool}{l:Unit->List t.el}(f:t.el->List Value)(ht:∀ x:t.el,(bf fr t fun _=>x).all AV.flat=true)(hf:∀ x:t.el,(bf fr t fun _=>x).map AV.valOf=f x)(h:aj w ρ base ro (.sl fr t l) v):∃ A c,v = .slice A (l ()).length c/\(l ()).length<=c/\Rd w w.heap.size t.size A ((l ()).map f):=by
 obtain⟨A,c,css,h1,h2,h3,_,_,h6,rfl⟩:=h.rh;refine⟨A,c,rfl,oo,?_⟩;have:css=(l ()).map f:=by
  apply xv;intro k;rw [gC]
  cases hk:css[k]? with
  | none =>
   have:(l ())[k]? = none:=by rw [amQ] at hk ⊢; omega
   rw [this];rfl
  | some cs =>
   have af:=(c8.1 hk).1;obtain⟨_,_,_,_,hl,_⟩:=h3 k cs hk;have hE:bn w ρ base ro (bf fr t fun _=>(l ()).getD k t.aa) cs:=wa hl fun j y u hy hu=>h6 k cs j y u hk hy hu;rw [hE.Ir (ht _),hf,bq oo,dG,aY,bq oo];rfl
 rwa [this] at h3
end
theorem EF(hf : Tryz.prog.funcs[c.f]? = some fn)(hb : (fn.body.isNone || fn.name == "runtime.NumGoroutine") = false)(h:∀ ah res,c.go ah=some res->∀ (w:World) (ra:Nat->Prop) (eu:List Value),bn w (fun _=>none) 0 ra ah eu->res.pre ()->Calls Tryz.prog c.f eu.toArray w fun e w'=>∃ v,e = .returned v/\dL w w'/\aj w' (fun _=>none) w.heap.size (fun b=>ra b\/w.heap.size<=b) res.av v):aE Tryz.prog c:=by
 simp only [lU] at hb;exact⟨fun args w=>zP hf hb.1 hb.2 args w,fun ah res kd w ra eu _ hE ja=>h ah res kd w ra eu hE ja⟩
structure Kd where
 T:Type
 sg:Sg
 av:(Unit->T)->AV
 to:AV->Option (Unit->T)
 ok:∀ {x f},to x=some f->x=av f
def Ns(f:FuncId)(pre:Prop)(res:AV):aC:=⟨f,[],fun
 | []=>some ⟨fun _=>pre,res⟩
 | _=>none⟩
theorem aeg{f:FuncId}{pre:Prop}{res:AV}{ah:List AV}(h:(Ns f pre res).go ah=some r):ah = []/\r=⟨fun _=>pre,res⟩:=by
 simp only [Ns] at h;split at h
 case h_2=>cases h
 cases h;exact⟨rfl,rfl⟩
def cL(f:FuncId)(A:Kd)(pre:(Unit->A.T)->Prop)(res:(Unit->A.T)->AV):aC:=⟨f,[A.sg],fun
 | [x0]=>(A.to x0).bind fun a=>some ⟨fun _=>pre a,res a⟩
 | _=>none⟩
theorem cS{f:FuncId}{A:Kd}{pre:(Unit->A.T)->Prop}{res:(Unit->A.T)->AV}{ah:List AV}(h:(cL f A pre res).go ah=some r):∃ (a:A.T),ah = [A.av fun _=>a]/\r=⟨fun _=>pre (fun _=>a),res (fun _=>a)⟩:=by
 simp only [cL] at h;exact aeh
def bE(f:FuncId)(A B:Kd)(pre:(Unit->A.T)->(Unit->B.T)->Prop)(res:(Unit->A.T)->(Unit->B.T)->AV):aC:=⟨f,[A.sg,B.sg],fun
 | [x0,x1]=>(A.to x0).bind fun a=>(B.to x1).bind fun b=>some ⟨fun _=>pre a b,res a b⟩
 | _=>none⟩
theorem bG{f:FuncId}{A B:Kd}{pre:(Unit->A.T)->(Unit->B.T)->Prop}{res:(Unit->A.T)->(Unit->B.T)->AV}{ah:List AV}(h:(bE f A B pre res).go ah=some r):∃ (a:A.T) (b:B.T),ah = [A.av fun _=>a,B.av fun _=>b]/\r=⟨fun _=>pre (fun _=>a) (fun _=>b),res (fun _=>a) (fun _=>b)⟩:=by
 simp only [bE] at h;exact aei
def ns(f:FuncId)(A B C:Kd)(pre:(Unit->A.T)->(Unit->B.T)->(Unit->C.T)->Prop)(res:(Unit->A.T)->(Unit->B.T)->(Unit->C.T)->AV):aC:=⟨f,[A.sg,B.sg,C.sg],fun
 | [x0,x1,x2]=>(A.to x0).bind fun a=>(B.to x1).bind fun b=>(C.to x2).bind fun c=>some ⟨fun _=>pre a b c,res a b c⟩
 | _=>none⟩
theorem oR{f:FuncId}{A B C:Kd}{pre:(Unit->A.T)->(Unit->B.T)->(Unit->C.T)->Prop}{res:(Unit->A.T)->(Unit->B.T)->(Unit->C.T)->AV}{ah:List AV}(h:(ns f A B C pre res).go ah=some r):∃ (a:A.T) (b:B.T) (c:C.T),ah = [A.av fun _=>a,B.av fun _=>b,C.av fun _=>c]/\r=⟨fun _=>pre (fun _=>a) (fun _=>b) (fun _=>c),res (fun _=>a) (fun _=>b) (fun _=>c)⟩:=by
 simp only [ns] at h;split at h
 case h_2=>cases h
 simp only [mm,bU] at h;obtain⟨a,e0,b,e1,c,e2,rfl⟩:=h;obtain rfl:=A.ok e0;obtain rfl:=B.ok e1;obtain rfl:=C.ok e2;exact⟨a (),b (),c (),rfl,rfl⟩
def oS(f:FuncId)(A B C D:Kd)(pre:(Unit->A.T)->(Unit->B.T)->(Unit->C.T)->(Unit->D.T)->Prop)(res:(Unit->A.T)->(Unit->B.T)->(Unit->C.T)->(Unit->D.T)->AV):aC:=⟨f,[A.sg,B.sg,C.sg,D.sg],fun
 | [x0,x1,x2,x3]=>(A.to x0).bind fun a=>(B.to x1).bind fun b=>(C.to x2).bind fun c=>(D.to x3).bind fun d=>some ⟨fun _=>pre a b c d,res a b c d⟩
 | _=>none⟩
theorem qu{f:FuncId}{A B C D:Kd}{pre:(Unit->A.T)->(Unit->B.T)->(Unit->C.T)->(Unit->D.T)->Prop}{res:(Unit->A.T)->(Unit->B.T)->(Unit->C.T)->(Unit->D.T)->AV}{ah:List AV}(h:(oS f A B C D pre res).go ah=some r):∃ (a:A.T) (b:B.T) (c:C.T) (d:D.T),ah = [A.av fun _=>a,B.av fun _=>b,C.av fun _=>c,D.av fun _=>d]/\r=⟨fun _=>pre (fun _=>a) (fun _=>b) (fun _=>c) (fun _=>d),res (fun _=>a) (fun _=>b) (fun _=>c) (fun _=>d)⟩:=by
 simp only [oS] at h;split at h
 case h_2=>cases h
 simp only [mm,bU] at h;obtain⟨a,e0,b,e1,c,e2,d,e3,rfl⟩:=h;obtain rfl:=A.ok e0;obtain rfl:=B.ok e1;obtain rfl:=C.ok e2;obtain rfl:=D.ok e3;exact⟨a (),b (),c (),d (),rfl,rfl⟩
def atc:List Sg := [.int .i64,.str,.int .u8,.bool,.int .i64,.int .i64,.int .i64,.int .u8,.bool]
def atd:List Sg := [.int .i64,.int .i64,.int .i64,.int .u8]
def aej:List Sg := [.int .i64,.int .i64,.int .u8]
def ate:List Sg := [.int .i64,.int .i64,.bool,.int .i64,.int .i64,.int .i64,.int .i64,.int .i64,.sl .int,.int .i64,.int .i64,.int .i64]
def aek:List Sg := [.sl .ar,.sl .cD,.int .i64,.int .i64,.int .i64,.int .i64,.sl .dO,.sl .cu,.sl .dW,.int .i64,.int .i64,.int .i64,.int .i64]
structure bB where
 aF:List dM
 bO:List gN
 lk:Int
 lx:Int
 ly:Int
 lz:Int
 rows:List m7
 ee:List aw
 fv:List dN
 m1:Int
 m2:Int
 m3:Int
 m4:Int
def Cg(b:Unit->aL):List AV := [.int .i64 fun _=>(b ()).id,.str fun _=>(b ()).num,.int .u8 fun _=>(b ()).size,.bool fun _=>(b ()).high,.int .i64 fun _=>(b ()).aI,.int .i64 fun _=>(b ()).load,.int .i64 fun _=>(b ()).jT,.int .u8 fun _=>(b ()).cls,.bool fun _=>(b ()).xB]
def Is(b:Unit->Ld):List AV := [.int .i64 fun _=>(b ()).aI,.int .i64 fun _=>(b ()).x,.int .i64 fun _=>(b ()).y,.int .i64 fun _=>(b ()).z]
def Ud(b:Unit->aA):List AV := [.int .i64 fun _=>(b ()).box,.int .i64 fun _=>(b ()).ar,.int .i64 fun _=>(b ()).aK,.int .u8 fun _=>(b ()).half]
def ael(b:Unit->Slot):List AV := [.int .i64 fun _=>(b ()).ar,.int .i64 fun _=>(b ()).aK,.int .u8 fun _=>(b ()).half]
def Nt(b:Unit->dM):List AV := [.int .i64 fun _=>(b ()).fI,.int .i64 fun _=>(b ()).row,.bool fun _=>(b ()).mv,.int .i64 fun _=>(b ()).dC,.int .i64 fun _=>(b ()).mZ,.int .i64 fun _=>(b ()).uA,.int .i64 fun _=>(b ()).uB,.int .i64 fun _=>(b ()).uC,.sl false .int fun _=>(b ()).cf,.int .i64 fun _=>(b ()).x,.int .i64 fun _=>(b ()).y,.int .i64 fun _=>(b ()).z]
def zR(b:Unit->bB):List AV := [.sl false .ar fun _=>(b ()).aF,.sl false .cD fun _=>(b ()).bO,.int .i64 fun _=>(b ()).lk,.int .i64 fun _=>(b ()).lx,.int .i64 fun _=>(b ()).ly,.int .i64 fun _=>(b ()).lz,.sl false .dO fun _=>(b ()).rows,.sl false .cu fun _=>(b ()).ee,.sl false .dW fun _=>(b ()).fv,.int .i64 fun _=>(b ()).m1,.int .i64 fun _=>(b ()).m2,.int .i64 fun _=>(b ()).m3,.int .i64 fun _=>(b ()).m4]
def AV.cp:AV->Option (Unit->Int)
 | .int .i64 n=>some n
 | _=>none
def AV.Ch:AV->Option (Unit->Int)
 | .int .u8 n=>some n
 | _=>none
def AV.Ci:AV->Option (Unit->Bool)
 | .bool n=>some n
 | _=>none
def AV.Nu:AV->Option (Unit->ByteArray)
 | .str n=>some n
 | _=>none
def AV.Nv:AV->Option (Unit->List dM)
 | .sl false .ar l=>some l
 | _=>none
def AV.Nw:AV->Option (Unit->List gN)
 | .sl false .cD l=>some l
 | _=>none
def AV.EG:AV->Option (Unit->List Int)
 | .sl false .int l=>some l
 | _=>none
def AV.Ue:AV->Option (Unit->List aL)
 | .sl false .box l=>some l
 | _=>none
def AV.Nx:AV->Option (Unit->List aA)
 | .sl false .ai l=>some l
 | _=>none
def AV.Uf:AV->Option (Unit->List Slot)
 | .sl false .slot l=>some l
 | _=>none
def AV.Ug:AV->Option (Unit->List Ld)
 | .sl false .ld l=>some l
 | _=>none
def AV.Uh:AV->Option (Unit->List Int)
 | .sl false .u8 l=>some l
 | _=>none
def AV.Ui:AV->Option (Unit->List xC)
 | .sl false .qW l=>some l
 | _=>none
def AV.Ny:AV->Option (Unit->List m7)
 | .sl false .dO l=>some l
 | _=>none
def AV.Nz:AV->Option (Unit->List aw)
 | .sl false .cu l=>some l
 | _=>none
def AV.NA:AV->Option (Unit->List dN)
 | .sl false .dW l=>some l
 | _=>none
def AV.Uj:AV->Option (Unit->Int)
 | .bP [.int .i64 n] 0=>some n
 | _=>none
def AV.Uk(f:FuncId):AV->Option (Unit->Int)
 | .fn g [.bP [.int .i64 n] 0]=>if g=f then some n else none
 | _=>none
def AV.Ul(f:FuncId):AV->Option (Unit->Unit)
 | .fn g []=>if g=f then some fun _=>() else none
 | _=>none
theorem AV.cM{x:AV}(h:x.cp=some n):x = .int .i64 n:=by
 unfold AV.cp at h;split at h<;>cases h
 rfl
abbrev kI:Kd:=⟨Int,.int .i64,fun n => .int .i64 n,AV.cp,AV.cM⟩
theorem AV.Iu{x:AV}(h:x.Ch=some n):x = .int .u8 n:=by
 unfold AV.Ch at h;split at h<;>cases h
 rfl
abbrev u5:Kd:=⟨Int,.int .u8,fun n => .int .u8 n,AV.Ch,AV.Iu⟩
theorem AV.Iv{x:AV}{n:Unit->Bool}(h:x.Ci=some n):x = .bool n:=by
 unfold AV.Ci at h;split at h<;>cases h
 rfl
abbrev kB:Kd:=⟨Bool,.bool,fun n => .bool n,AV.Ci,AV.Iv⟩
theorem AV.aem{x:AV}{n:Unit->ByteArray}(h:x.Nu=some n):x = .str n:=by
 unfold AV.Nu at h;split at h<;>cases h
 rfl
abbrev kS:Kd:=⟨ByteArray,.str,fun n => .str n,AV.Nu,AV.aem⟩
theorem AV.aen{x:AV}{n:Unit->List dM}(h:x.Nv=some n):x = .sl false .ar n:=by
 unfold AV.Nv at h;split at h<;>cases h
 rfl
abbrev NB:Kd:=⟨List dM,.sl .ar,fun n => .sl false .ar n,AV.Nv,AV.aen⟩
theorem AV.aeo{x:AV}{n:Unit->List gN}(h:x.Nw=some n):x = .sl false .cD n:=by
 unfold AV.Nw at h;split at h<;>cases h
 rfl
abbrev NC:Kd:=⟨List gN,.sl .cD,fun n => .sl false .cD n,AV.Nw,AV.aeo⟩
theorem AV.ND{x:AV}{n:Unit->List Int}(h:x.EG=some n):x = .sl false .int n:=by
 unfold AV.EG at h;split at h<;>cases h
 rfl
abbrev gi:Kd:=⟨List Int,.sl .int,fun n => .sl false .int n,AV.EG,AV.ND⟩
theorem AV.atf{x:AV}{n:Unit->List aL}(h:x.Ue=some n):x = .sl false .box n:=by
 unfold AV.Ue at h;split at h<;>cases h
 rfl
abbrev jc:Kd:=⟨List aL,.sl .box,fun n => .sl false .box n,AV.Ue,AV.atf⟩
theorem AV.aep{x:AV}{n:Unit->List aA}(h:x.Nx=some n):x = .sl false .ai n:=by
 unfold AV.Nx at h;split at h<;>cases h
 rfl
abbrev lL:Kd:=⟨List aA,.sl .ai,fun n => .sl false .ai n,AV.Nx,AV.aep⟩
theorem AV.atg{x:AV}{n:Unit->List Slot}(h:x.Uf=some n):x = .sl false .slot n:=by
 unfold AV.Uf at h;split at h<;>cases h
 rfl
abbrev Iw:Kd:=⟨List Slot,.sl .slot,fun n => .sl false .slot n,AV.Uf,AV.atg⟩
theorem AV.ath{x:AV}{n:Unit->List Ld}(h:x.Ug=some n):x = .sl false .ld n:=by
 unfold AV.Ug at h;split at h<;>cases h
 rfl
abbrev ati:Kd:=⟨List Ld,.sl .ld,fun n => .sl false .ld n,AV.Ug,AV.ath⟩
theorem AV.atj{x:AV}{n:Unit->List Int}(h:x.Uh=some n):x = .sl false .u8 n:=by
 unfold AV.Uh at h;split at h<;>cases h
 rfl
abbrev atk:Kd:=⟨List Int,.sl .u8,fun n => .sl false .u8 n,AV.Uh,AV.atj⟩
theorem AV.atl{x:AV}{n:Unit->List xC}(h:x.Ui=some n):x = .sl false .qW n:=by
 unfold AV.Ui at h;split at h<;>cases h
 rfl
abbrev atm:Kd:=⟨List xC,.sl .qW,fun n => .sl false .qW n,AV.Ui,AV.atl⟩
theorem AV.aeq{x:AV}{n:Unit->List m7}(h:x.Ny=some n):x = .sl false .dO n:=by
 unfold AV.Ny at h;split at h<;>cases h
 rfl
abbrev NF:Kd:=⟨List m7,.sl .dO,fun n => .sl false .dO n,AV.Ny,AV.aeq⟩
theorem AV.aer{x:AV}{n:Unit->List aw}(h:x.Nz=some n):x = .sl false .cu n:=by
 unfold AV.Nz at h;split at h<;>cases h
 rfl
abbrev qv:Kd:=⟨List aw,.sl .cu,fun n => .sl false .cu n,AV.Nz,AV.aer⟩
theorem AV.aes{x:AV}{n:Unit->List dN}(h:x.NA=some n):x = .sl false .dW n:=by
 unfold AV.NA at h;split at h<;>cases h
 rfl
abbrev tJ:Kd:=⟨List dN,.sl .dW,fun n => .sl false .dW n,AV.NA,AV.aes⟩
theorem AV.atn{x:AV}(h:x.Uj=some n):x = .bP [.int .i64 n] 0:=by
 unfold AV.Uj at h;split at h<;>cases h
 rfl
abbrev Um:Kd:=⟨Int,.bP [.int .i64],fun n => .bP [.int .i64 n] 0,AV.Uj,AV.atn⟩
theorem AV.ato{x:AV}{f:FuncId}(h:x.Uk f=some n):x = .fn f [.bP [.int .i64 n] 0]:=by
 unfold AV.Uk at h;split at h
 . split at h<;>cases h
   rename_i h;rw [h]
 . cases h
abbrev aet(f:FuncId):Kd:=⟨Int,.fn [.bP [.int .i64]],fun n => .fn f [.bP [.int .i64 n] 0],fun x=>x.Uk f,AV.ato⟩
theorem AV.atp{x:AV}{f:FuncId}{n:Unit->Unit}(h:x.Ul f=some n):x = .fn f []:=by
 unfold AV.Ul at h;split at h
 . split at h<;>cases h
   rename_i h;rw [h]
 . cases h
abbrev yc(f:FuncId):Kd:=⟨Unit,.fn [],fun n => .fn f [],fun x=>x.Ul f,AV.atp⟩
def AV.NG:AV->Option (Unit->aL)
 | .agg [a,b,c,d,e,f,g,h,i]=>a.cp.bind fun a=>b.Nu.bind fun b=>c.Ch.bind fun c=>d.Ci.bind fun d=>e.cp.bind fun e=>f.cp.bind fun f=>g.cp.bind fun g=>h.Ch.bind fun h=>i.Ci.bind fun i=>some fun _=>⟨a (),b (),c (),d (),e (),f (),g (),h (),i ()⟩
 | _=>none
def AV.aEH:AV->Option (Unit->qV)
 | .agg [a,b,c,d,e,f,g,h,i,x,y,z]=>(AV.NG (.agg [a,b,c,d,e,f,g,h,i])).bind fun b=>x.cp.bind fun x=>y.cp.bind fun y=>z.cp.bind fun z=>some fun _=>⟨b (),x (),y (),z ()⟩
 | _=>none
def AV.aEI:AV->Option (Unit->Ld)
 | .agg [a,b,c,d]=>a.cp.bind fun a=>b.cp.bind fun b=>c.cp.bind fun c=>d.cp.bind fun d=>some fun _=>⟨a (),b (),c (),d ()⟩
 | _=>none
def AV.Un:AV->Option (Unit->aA)
 | .agg [a,b,c,d]=>a.cp.bind fun a=>b.cp.bind fun b=>c.cp.bind fun c=>d.Ch.bind fun d=>some fun _=>⟨a (),b (),c (),d ()⟩
 | _=>none
def AV.Uo:AV->Option (Unit->Slot)
 | .agg [a,b,c]=>a.cp.bind fun a=>b.cp.bind fun b=>c.Ch.bind fun c=>some fun _=>⟨a (),b (),c ()⟩
 | _=>none
def AV.Up:AV->Option (Unit->dM)
 | .agg [a,b,c,d,e,f,g,h,i,j,k,l]=>a.cp.bind fun a=>b.cp.bind fun b=>c.Ci.bind fun c=>d.cp.bind fun d=>e.cp.bind fun e=>f.cp.bind fun f=>g.cp.bind fun g=>h.cp.bind fun h=>i.EG.bind fun i=>j.cp.bind fun j=>k.cp.bind fun k=>l.cp.bind fun l=>some fun _=>⟨a (),b (),c (),d (),e (),f (),g (),h (),i (),j (),k (),l ()⟩
 | _=>none
def AV.Uq:AV->Option (Unit->bB)
 | .agg [a,b,c,d,e,f,g,h,i,j,k,l,m]=>a.Nv.bind fun a=>b.Nw.bind fun b=>c.cp.bind fun c=>d.cp.bind fun d=>e.cp.bind fun e=>f.cp.bind fun f=>g.Ny.bind fun g=>h.Nz.bind fun h=>i.NA.bind fun i=>j.cp.bind fun j=>k.cp.bind fun k=>l.cp.bind fun l=>m.cp.bind fun m=>some fun _=>⟨a (),b (),c (),d (),e (),f (),g (),h (),i (),j (),k (),l (),m ()⟩
 | _=>none
theorem AV.atq{x:AV}{b:Unit->aL}(h:x.NG=some b):x = .agg (Cg b):=by
 unfold AV.NG at h;split at h
 . simp only [mm,bU] at h;obtain⟨a,h1,b,h2,c,h3,d,h4,e,h5,f,h6,g,h7,i,h8,j,h9,rfl⟩:=h;rw [AV.cM h1,AV.aem h2,AV.Iu h3,AV.Iv h4,AV.cM h5,AV.cM h6,AV.cM h7,AV.Iu h8,AV.Iv h9];rfl
 . cases h
abbrev Cj:Kd:=⟨aL,.agg atc,fun b => .agg (Cg b),AV.NG,AV.atq⟩
theorem AV.atr{x:AV}{b:Unit->aA}(h:x.Un=some b):x = .agg (Ud b):=by
 unfold AV.Un at h;split at h
 . simp only [mm,bU] at h;obtain⟨a,h1,b,h2,c,h3,d,h4,rfl⟩:=h;rw [AV.cM h1,AV.cM h2,AV.cM h3,AV.Iu h4];rfl
 . cases h
abbrev aeu:Kd:=⟨aA,.agg atd,fun b => .agg (Ud b),AV.Un,AV.atr⟩
theorem AV.ats{x:AV}{b:Unit->Slot}(h:x.Uo=some b):x = .agg (ael b):=by
 unfold AV.Uo at h;split at h
 . simp only [mm,bU] at h;obtain⟨a,h1,b,h2,c,h3,rfl⟩:=h;rw [AV.cM h1,AV.cM h2,AV.Iu h3];rfl
 . cases h
abbrev u6:Kd:=⟨Slot,.agg aej,fun b => .agg (ael b),AV.Uo,AV.ats⟩
theorem AV.att{x:AV}{b:Unit->dM}(h:x.Up=some b):x = .agg (Nt b):=by
 unfold AV.Up at h;split at h
 . simp only [mm,bU] at h;obtain⟨a,h1,b,h2,c,h3,d,h4,e,h5,f,h6,g,h7,i,h8,j,h9,k,mY,l,kn,m,Iy,rfl⟩:=h;rw [AV.cM h1,AV.cM h2,AV.Iv h3,AV.cM h4,AV.cM h5,AV.cM h6,AV.cM h7,AV.cM h8,AV.ND h9,AV.cM mY,AV.cM kn,AV.cM Iy];rfl
 . cases h
abbrev Ck:Kd:=⟨dM,.agg ate,fun b => .agg (Nt b),AV.Up,AV.att⟩
theorem AV.atu{x:AV}{b:Unit->bB}(h:x.Uq=some b):x = .agg (zR b):=by
 unfold AV.Uq at h;split at h
 . simp only [mm,bU] at h;obtain⟨a,h1,b,h2,c,h3,d,h4,e,h5,f,h6,g,h7,i,h8,j,h9,k,mY,l,kn,m,Iy,n,h13,rfl⟩:=h;rw [AV.aen h1,AV.aeo h2,AV.cM h3,AV.cM h4,AV.cM h5,AV.cM h6,AV.aeq h7,AV.aer h8,AV.aes h9,AV.cM mY,AV.cM kn,AV.cM Iy,AV.cM h13];rfl
 . cases h
abbrev ko:Kd:=⟨bB,.agg aek,fun b => .agg (zR b),AV.Uq,AV.atu⟩
structure Cl where
 aF:List su
 aev:Nat
 bO:List sv
 aew:Nat
 lk:Int
 lx:Int
 ly:Int
 lz:Int
 rows:List m7
 A7:Nat
 ee:List aw
 aex:Nat
 fv:List sx
 aey:Nat
 m1:Int
 m2:Int
 m3:Int
 m4:Int
def AV.EH:AV->Option (Unit->List Int×Nat)
 | .wide false .int l n=>some fun _=>(l (),n ())
 | _=>none
theorem AV.NH{x:AV}{f:Unit->List Int×Nat}(h:x.EH=some f):x = .wide false .int (fun _=>(f ()).1) fun _=>(f ()).2:=by
 unfold AV.EH at h;split at h<;>cases h
 rfl
abbrev atw:Kd:=⟨List Int×Nat,.wide .int,fun f => .wide false .int (fun _=>(f ()).1) fun _=>(f ()).2,AV.EH,AV.NH⟩
def AV.NI:AV->Option (Unit->List m7×Nat)
 | .wide false .dO l n=>some fun _=>(l (),n ())
 | _=>none
theorem AV.aez{x:AV}{f:Unit->List m7×Nat}(h:x.NI=some f):x = .wide false .dO (fun _=>(f ()).1) fun _=>(f ()).2:=by
 unfold AV.NI at h;split at h<;>cases h
 rfl
abbrev atx:Kd:=⟨List m7×Nat,.wide .dO,fun f => .wide false .dO (fun _=>(f ()).1) fun _=>(f ()).2,AV.NI,AV.aez⟩
def AV.NJ:AV->Option (Unit->List aw×Nat)
 | .wide false .cu l n=>some fun _=>(l (),n ())
 | _=>none
theorem AV.aeA{x:AV}{f:Unit->List aw×Nat}(h:x.NJ=some f):x = .wide false .cu (fun _=>(f ()).1) fun _=>(f ()).2:=by
 unfold AV.NJ at h;split at h<;>cases h
 rfl
abbrev aty:Kd:=⟨List aw×Nat,.wide .cu,fun f => .wide false .cu (fun _=>(f ()).1) fun _=>(f ()).2,AV.NJ,AV.aeA⟩
def AV.Ur:AV->Option (Unit->List aL×Nat)
 | .wide false .box l n=>some fun _=>(l (),n ())
 | _=>none
theorem AV.atz{x:AV}{f:Unit->List aL×Nat}(h:x.Ur=some f):x = .wide false .box (fun _=>(f ()).1) fun _=>(f ()).2:=by
 unfold AV.Ur at h;split at h<;>cases h
 rfl
abbrev atA:Kd:=⟨List aL×Nat,.wide .box,fun f => .wide false .box (fun _=>(f ()).1) fun _=>(f ()).2,AV.Ur,AV.atz⟩
def AV.Us:AV->Option (Unit->List aA×Nat)
 | .wide false .ai l n=>some fun _=>(l (),n ())
 | _=>none
theorem AV.atB{x:AV}{f:Unit->List aA×Nat}(h:x.Us=some f):x = .wide false .ai (fun _=>(f ()).1) fun _=>(f ()).2:=by
 unfold AV.Us at h;split at h<;>cases h
 rfl
abbrev atC:Kd:=⟨List aA×Nat,.wide .ai,fun f => .wide false .ai (fun _=>(f ()).1) fun _=>(f ()).2,AV.Us,AV.atB⟩
def AV.NK:AV->Option (Unit->List su×Nat)
 | .wide false .kK l n=>some fun _=>(l (),n ())
 | _=>none
theorem AV.aeB{x:AV}{f:Unit->List su×Nat}(h:x.NK=some f):x = .wide false .kK (fun _=>(f ()).1) fun _=>(f ()).2:=by
 unfold AV.NK at h;split at h<;>cases h
 rfl
abbrev atD:Kd:=⟨List su×Nat,.wide .kK,fun f => .wide false .kK (fun _=>(f ()).1) fun _=>(f ()).2,AV.NK,AV.aeB⟩
def AV.NL:AV->Option (Unit->List sv×Nat)
 | .wide false .kL l n=>some fun _=>(l (),n ())
 | _=>none
theorem AV.aeC{x:AV}{f:Unit->List sv×Nat}(h:x.NL=some f):x = .wide false .kL (fun _=>(f ()).1) fun _=>(f ()).2:=by
 unfold AV.NL at h;split at h<;>cases h
 rfl
abbrev atE:Kd:=⟨List sv×Nat,.wide .kL,fun f => .wide false .kL (fun _=>(f ()).1) fun _=>(f ()).2,AV.NL,AV.aeC⟩
def AV.NM:AV->Option (Unit->List sx×Nat)
 | .wide false .kM l n=>some fun _=>(l (),n ())
 | _=>none
theorem AV.aeD{x:AV}{f:Unit->List sx×Nat}(h:x.NM=some f):x = .wide false .kM (fun _=>(f ()).1) fun _=>(f ()).2:=by
 unfold AV.NM at h;split at h<;>cases h
 rfl
abbrev atF:Kd:=⟨List sx×Nat,.wide .kM,fun f => .wide false .kM (fun _=>(f ()).1) fun _=>(f ()).2,AV.NM,AV.aeD⟩
def AV.aeE:AV->Option (Unit->m7)
 | .agg [a0,a1,a2,a3,a4]=>a0.cp.bind fun a0=>a1.cp.bind fun a1=>a2.cp.bind fun a2=>a3.cp.bind fun a3=>a4.cp.bind fun a4=>some fun _=>⟨a0 (),a1 (),a2 (),a3 (),a4 ()⟩
 | _=>none
theorem AV.aEJ{x:AV}{b:Unit->m7}(h:x.aeE=some b):x = .agg (bf false .dO b):=by
 unfold AV.aeE at h;exact aeF
def atG:List Sg := [.int .i64,.int .i64,.int .i64,.int .i64,.int .i64]
def AV.Ut:AV->Option (Unit->aw)
 | .agg [a0,a1,a2,a3,a4]=>a0.cp.bind fun a0=>a1.cp.bind fun a1=>a2.cp.bind fun a2=>a3.cp.bind fun a3=>a4.cp.bind fun a4=>some fun _=>⟨a0 (),a1 (),a2 (),a3 (),a4 ()⟩
 | _=>none
theorem AV.atH{x:AV}{b:Unit->aw}(h:x.Ut=some b):x = .agg (bf false .cu b):=by
 unfold AV.Ut at h;exact aeF
abbrev atI:Kd:=⟨aw,.agg atG,fun b => .agg (bf false .cu b),AV.Ut,AV.atH⟩
def atJ:List Sg := [.int .i64,.sl .int]
def AV.Uu:AV->Option (Unit->gN)
 | .agg [a0,a1]=>a0.cp.bind fun a0=>a1.EG.bind fun a1=>some fun _=>⟨a0 (),a1 ()⟩
 | _=>none
theorem AV.atK{x:AV}{b:Unit->gN}(h:x.Uu=some b):x = .agg (bf false .cD b):=by
 unfold AV.Uu at h;split at h
 . simp only [mm,bU] at h;obtain⟨a0,h0,a1,h1,rfl⟩:=h;rw [AV.cM h0,AV.ND h1];rfl
 . cases h
abbrev NN:Kd:=⟨gN,.agg atJ,fun b => .agg (bf false .cD b),AV.Uu,AV.atK⟩
def atL:List Sg := [.int .i64,.int .i64,.int .i64,.int .i64,.int .i64,.sl .int]
def AV.Uv:AV->Option (Unit->dN)
 | .agg [a0,a1,a2,a3,a4,a5]=>a0.cp.bind fun a0=>a1.cp.bind fun a1=>a2.cp.bind fun a2=>a3.cp.bind fun a3=>a4.cp.bind fun a4=>a5.EG.bind fun a5=>some fun _=>⟨a0 (),a1 (),a2 (),a3 (),a4 (),a5 ()⟩
 | _=>none
theorem AV.atM{x:AV}{b:Unit->dN}(h:x.Uv=some b):x = .agg (bf false .dW b):=by
 unfold AV.Uv at h;split at h
 . simp only [mm,bU] at h;obtain⟨a0,h0,a1,h1,a2,h2,a3,h3,a4,h4,a5,h5,rfl⟩:=h;rw [AV.cM h0,AV.cM h1,AV.cM h2,AV.cM h3,AV.cM h4,AV.ND h5];rfl
 . cases h
abbrev EJ:Kd:=⟨dN,.agg atL,fun b => .agg (bf false .dW b),AV.Uv,AV.atM⟩
def atN:List Sg := [.int .i64,.int .i64,.bool,.int .i64,.int .i64,.int .i64,.int .i64,.int .i64,.wide .int,.int .i64,.int .i64,.int .i64]
def AV.Uw:AV->Option (Unit->su)
 | .agg [a0,a1,a2,a3,a4,a5,a6,a7,a8,a9,nc,nQ]=>a0.cp.bind fun a0=>a1.cp.bind fun a1=>a2.Ci.bind fun a2=>a3.cp.bind fun a3=>a4.cp.bind fun a4=>a5.cp.bind fun a5=>a6.cp.bind fun a6=>a7.cp.bind fun a7=>a8.EH.bind fun a8=>a9.cp.bind fun a9=>nc.cp.bind fun nc=>nQ.cp.bind fun nQ=>some fun _=>⟨a0 (),a1 (),a2 (),a3 (),a4 (),a5 (),a6 (),a7 (),(a8 ()).1,(a8 ()).2,a9 (),nc (),nQ ()⟩
 | _=>none
theorem AV.atO{x:AV}{b:Unit->su}(h:x.Uw=some b):x = .agg (bf false .kK b):=by
 unfold AV.Uw at h;split at h
 . simp only [mm,bU] at h;obtain⟨a0,h0,a1,h1,a2,h2,a3,h3,a4,h4,a5,h5,a6,h6,a7,h7,a8,h8,a9,h9,nc,mY,nQ,kn,rfl⟩:=h;rw [AV.cM h0,AV.cM h1,AV.Iv h2,AV.cM h3,AV.cM h4,AV.cM h5,AV.cM h6,AV.cM h7,AV.NH h8,AV.cM h9,AV.cM mY,AV.cM kn];rfl
 . cases h
abbrev atP:Kd:=⟨su,.agg atN,fun b => .agg (bf false .kK b),AV.Uw,AV.atO⟩
def atQ:List Sg := [.int .i64,.wide .int]
def AV.Ux:AV->Option (Unit->sv)
 | .agg [a0,a1]=>a0.cp.bind fun a0=>a1.EH.bind fun a1=>some fun _=>⟨a0 (),(a1 ()).1,(a1 ()).2⟩
 | _=>none
theorem AV.atS{x:AV}{b:Unit->sv}(h:x.Ux=some b):x = .agg (bf false .kL b):=by
 unfold AV.Ux at h;split at h
 . simp only [mm,bU] at h;obtain⟨a0,h0,a1,h1,rfl⟩:=h;rw [AV.cM h0,AV.NH h1];rfl
 . cases h
abbrev atT:Kd:=⟨sv,.agg atQ,fun b => .agg (bf false .kL b),AV.Ux,AV.atS⟩
def atU:List Sg := [.int .i64,.int .i64,.int .i64,.int .i64,.int .i64,.wide .int]
def AV.Uy:AV->Option (Unit->sx)
 | .agg [a0,a1,a2,a3,a4,a5]=>a0.cp.bind fun a0=>a1.cp.bind fun a1=>a2.cp.bind fun a2=>a3.cp.bind fun a3=>a4.cp.bind fun a4=>a5.EH.bind fun a5=>some fun _=>⟨a0 (),a1 (),a2 (),a3 (),a4 (),(a5 ()).1,(a5 ()).2⟩
 | _=>none
theorem AV.atV{x:AV}{b:Unit->sx}(h:x.Uy=some b):x = .agg (bf false .kM b):=by
 unfold AV.Uy at h;split at h
 . simp only [mm,bU] at h;obtain⟨a0,h0,a1,h1,a2,h2,a3,h3,a4,h4,a5,h5,rfl⟩:=h;rw [AV.cM h0,AV.cM h1,AV.cM h2,AV.cM h3,AV.cM h4,AV.NH h5];rfl
 . cases h
abbrev atW:Kd:=⟨sx,.agg atU,fun b => .agg (bf false .kM b),AV.Uy,AV.atV⟩
def Uz(fr:Bool)(b:Unit->Cl):List AV := [.wide fr .kK (fun _=>(b ()).aF) (fun _=>(b ()).aev),.wide fr .kL (fun _=>(b ()).bO) (fun _=>(b ()).aew),.int .i64 fun _=>(b ()).lk,.int .i64 fun _=>(b ()).lx,.int .i64 fun _=>(b ()).ly,.int .i64 fun _=>(b ()).lz,.wide fr .dO (fun _=>(b ()).rows) (fun _=>(b ()).A7),.wide fr .cu (fun _=>(b ()).ee) (fun _=>(b ()).aex),.wide fr .kM (fun _=>(b ()).fv) (fun _=>(b ()).aey),.int .i64 fun _=>(b ()).m1,.int .i64 fun _=>(b ()).m2,.int .i64 fun _=>(b ()).m3,.int .i64 fun _=>(b ()).m4]
def atX:List Sg := [.wide .kK,.wide .kL,.int .i64,.int .i64,.int .i64,.int .i64,.wide .dO,.wide .cu,.wide .kM,.int .i64,.int .i64,.int .i64,.int .i64]
def AV.UA:AV->Option (Unit->Cl)
 | .agg [a0,a1,a2,a3,a4,a5,a6,a7,a8,a9,nc,nQ,DZ]=>a0.NK.bind fun a0=>a1.NL.bind fun a1=>a2.cp.bind fun a2=>a3.cp.bind fun a3=>a4.cp.bind fun a4=>a5.cp.bind fun a5=>a6.NI.bind fun a6=>a7.NJ.bind fun a7=>a8.NM.bind fun a8=>a9.cp.bind fun a9=>nc.cp.bind fun nc=>nQ.cp.bind fun nQ=>DZ.cp.bind fun DZ=>some fun _=>⟨(a0 ()).1,(a0 ()).2,(a1 ()).1,(a1 ()).2,a2 (),a3 (),a4 (),a5 (),(a6 ()).1,(a6 ()).2,(a7 ()).1,(a7 ()).2,(a8 ()).1,(a8 ()).2,a9 (),nc (),nQ (),DZ ()⟩
 | _=>none
theorem AV.atY{x:AV}{b:Unit->Cl}(h:x.UA=some b):x = .agg (Uz false b):=by
 unfold AV.UA at h;split at h
 . simp only [mm,bU] at h;obtain⟨a0,h0,a1,h1,a2,h2,a3,h3,a4,h4,a5,h5,a6,h6,a7,h7,a8,h8,a9,h9,nc,mY,nQ,kn,DZ,Iy,rfl⟩:=h;rw [AV.aeB h0,AV.aeC h1,AV.cM h2,AV.cM h3,AV.cM h4,AV.cM h5,AV.aez h6,AV.aeA h7,AV.aeD h8,AV.cM h9,AV.cM mY,AV.cM kn,AV.cM Iy];rfl
 . cases h
abbrev atZ:Kd:=⟨Cl,.agg atX,fun b => .agg (Uz false b),AV.UA,AV.atY⟩
end Go.Proofs.YtamjbkaclhgffaaGreat
